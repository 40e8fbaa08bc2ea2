/- Readings of slices and structs as lists, with a footprint of blocks; plain lemmas over any program; no condition. -/
import Derived.WalkKit
import Derived.WalkSpells
import Derived.WalkLawsBesides
import Derived.Lib.Hide
import Derived.Test.YtafikekndefjcaaDoorRows
import Derived.BigQuiet
import Derived.Deep.QuietTactic
import Derived.Deep.RegionHeld3
import Derived.Laws.AppendOwnNone
import Derived.Shelf.SlSortCmp.NoneTotal
import Derived.Lib.OwnBridge
import Derived.Shelf.Slices.CompactI
/- Rep: Readings of slices and structs as lists, with a footprint of blocks; plain lemmas over any program; no condition. -/
namespace Go.Proofs.YtafikekndefjcaaDoor
set_option linter.unusedVariables false
set_option linter.unusedSimpArgs false
set_option linter.unusedSectionVars false
open Go.RowKit

abbrev Foot := Nat → TypeId → Nat × Nat → Prop

def I64 (x : Int) : Prop := -9223372036854775808 ≤ x ∧ x ≤ 9223372036854775807

def At (F : Foot) (w : World) (b o : Nat) (v : Value) : Prop :=
  ∃ c e fz, w.heap[b]? = some (.cells c e fz) ∧ c[o]? = some v ∧ F b e fz

theorem At.cell {F : Foot} {w : World} {b o : Nat} {v : Value} (h : At F w b o v) : w.cell? ⟨b, o, none⟩ = some v := by
  obtain ⟨c, e, fz, h1, h2, _⟩ := h
  simp [World.cell?, h1, h2]

theorem At.lt {F : Foot} {w : World} {b o : Nat} {v : Value} (h : At F w b o v) : b < w.heap.size := by
  obtain ⟨c, e, fz, h1, _, _⟩ := h
  exact (Array.getElem?_eq_some_iff.1 h1).1

def Keeps (F : Foot) (w w' : World) : Prop :=
  ∀ b c e fz, w.heap[b]? = some (.cells c e fz) → F b e fz → w'.heap[b]? = some (.cells c e fz)

theorem Keeps.refl (F : Foot) (w : World) : Keeps F w w := fun _ _ _ _ h _ => h
theorem Keeps.trans {F : Foot} {a b c : World} (h : Keeps F a b) (k : Keeps F b c) : Keeps F a c := fun _ _ _ _ h1 h2 => k _ _ _ _ (h _ _ _ _ h1 h2) h2

theorem At.mono {F : Foot} {w w' : World} {b o : Nat} {v : Value} (h : At F w b o v) (k : Keeps F w w') : At F w' b o v := by
  obtain ⟨c, e, fz, h1, h2, h3⟩ := h
  exact ⟨c, e, fz, k _ _ _ _ h1 h3, h2, h3⟩

theorem At.weak {F F' : Foot} {w : World} {b o : Nat} {v : Value} (h : At F w b o v) (k : ∀ b e fz, b < w.heap.size → F b e fz → F' b e fz) : At F' w b o v := by
  have hl := h.lt
  obtain ⟨c, e, fz, h1, h2, h3⟩ := h
  exact ⟨c, e, fz, h1, h2, k _ _ _ hl h3⟩

structure Enc (α : Type) where
  size : Nat
  bytes : Nat
  rep : Foot → World → α → List Value → Prop
  len : ∀ {F w x cs}, rep F w x cs → cs.length = size
  mono : ∀ {F w w' x cs}, rep F w x cs → Keeps F w w' → rep F w' x cs
  weak : ∀ {F F' w x cs}, rep F w x cs → (∀ b e fz, b < w.heap.size → F b e fz → F' b e fz) → rep F' w x cs

theorem Enc.below {α : Type} (E : Enc α) {F : Foot} {w w' : World} {x : α} {cs : List Value} (h : E.rep F w x cs) (hb : Below w.heap.size w w') : E.rep F w' x cs := by
  have h1 : E.rep (fun b e fz => F b e fz ∧ b < w.heap.size) w x cs := E.weak h (fun b e fz hl hf => ⟨hf, hl⟩)
  have h2 := E.mono h1 (w' := w') (fun b c e fz hh hf => by rw [hb.block b hf.2]; exact hh)
  exact E.weak h2 (fun b e fz _ hf => hf.1)

theorem Enc.lows {α : Type} (E : Enc α) {F : Foot} {w : World} {x : α} {cs : List Value} (h : E.rep F w x cs) : E.rep (fun b e fz => F b e fz ∧ b < w.heap.size) w x cs :=
  E.weak h (fun _ _ _ hl hf => ⟨hf, hl⟩)

def eInt : Enc Int where
  size := 1
  bytes := 8
  rep _ _ x cs := cs = [.int .i64 x] ∧ I64 x
  len h := by rw [h.1]; rfl
  mono h _ := h
  weak h _ := h

def LenMax : Nat := 17592186044416

def Elems {α : Type} (E : Enc α) (F : Foot) (w : World) (a : Option Addr) (xs : List α) : Prop :=
  ∀ (i : Nat) (h : i < xs.length), ∃ b o raw, a = some ⟨b, o, none⟩ ∧ raw.length = E.size ∧ (∀ (j : Nat) (hj : j < raw.length), At F w b (o + i * E.size + j) raw[j]) ∧ E.rep F w xs[i] raw

theorem Elems.mono {α : Type} {E : Enc α} {F : Foot} {w w' : World} {a : Option Addr} {xs : List α} (h : Elems E F w a xs) (k : Keeps F w w') : Elems E F w' a xs := fun i hi => by
  obtain ⟨b, o, raw, h1, h2, h3, h4⟩ := h i hi
  exact ⟨b, o, raw, h1, h2, fun j hj => (h3 j hj).mono k, E.mono h4 k⟩

theorem Elems.weak {α : Type} {E : Enc α} {F F' : Foot} {w : World} {a : Option Addr} {xs : List α} (h : Elems E F w a xs) (k : ∀ b e fz, b < w.heap.size → F b e fz → F' b e fz) : Elems E F' w a xs := fun i hi => by
  obtain ⟨b, o, raw, h1, h2, h3, h4⟩ := h i hi
  exact ⟨b, o, raw, h1, h2, fun j hj => (h3 j hj).weak k, E.weak h4 k⟩

def eList {α : Type} (E : Enc α) : Enc (List α) where
  size := 1
  bytes := 24
  rep F w xs cs := ∃ a n c, cs = [.slice a n c] ∧ n = xs.length ∧ n ≤ c ∧ n * E.bytes ≤ 140737488355328 ∧ (a = none → c = 0) ∧ Elems E F w a xs
  len := fun ⟨_, _, _, h, _⟩ => by rw [h]; rfl
  mono := fun ⟨a, n, c, h1, h2, h3, h4, h0, h5⟩ k => ⟨a, n, c, h1, h2, h3, h4, h0, h5.mono k⟩
  weak := fun ⟨a, n, c, h1, h2, h3, h4, h0, h5⟩ k => ⟨a, n, c, h1, h2, h3, h4, h0, h5.weak k⟩

def Ints (F : Foot) (w : World) (v : Value) (xs : List Int) : Prop := (eList eInt).rep F w xs [v]
def IntRows (F : Foot) (w : World) (v : Value) (xs : List (List Int)) : Prop := (eList (eList eInt)).rep F w xs [v]

end Go.Proofs.YtafikekndefjcaaDoor
/- Set: Sets of variables as 128 bits: plain lemmas; no condition. -/
namespace Go.Proofs.YtafikekndefjcaaDoor
set_option linter.unusedVariables false
set_option linter.unusedSimpArgs false
set_option linter.unusedSectionVars false
open Go.RowKit

def lo (s : BitVec 128) : BitVec 64 := s.extractLsb' 0 64
def hi (s : BitVec 128) : BitVec 64 := s.extractLsb' 64 64
abbrev WV (x : BitVec 64) : Value := .int .u64 (x.toNat : Int)
abbrev SV (s : BitVec 128) : Value := .agg #[WV (lo s), WV (hi s)]
def sHas (s : BitVec 128) (v : Int) : Bool := decide (1 ≤ v) && decide (v ≤ 128) && s.getLsbD (v - 1).toNat
def sBit (v : Int) : BitVec 128 := if 1 ≤ v ∧ v ≤ 128 then BitVec.twoPow 128 (v - 1).toNat else 0#128
def sWith (s : BitVec 128) (v : Int) : BitVec 128 := s ||| sBit v
def sWithout (s : BitVec 128) (v : Int) : BitVec 128 := s &&& ~~~ sBit v
def sAll (n : Int) : BitVec 128 := BitVec.ofNat 128 (2 ^ (min n 128).toNat - 1)

theorem lo_bit (s : BitVec 128) (k : Nat) : (lo s).getLsbD k = (decide (k < 64) && s.getLsbD k) := by simp [lo]
theorem hi_bit (s : BitVec 128) (k : Nat) : (hi s).getLsbD k = (decide (k < 64) && s.getLsbD (64 + k)) := by simp [hi]

theorem words_ext {s t : BitVec 128} (h1 : lo s = lo t) (h2 : hi s = hi t) : s = t := by
  apply BitVec.eq_of_getLsbD_eq
  intro k hk
  by_cases h : k < 64
  · have := congrArg (fun x => x.getLsbD k) h1
    simp only [lo_bit] at this
    simpa only [h, decide_true, Bool.true_and] using this
  · have := congrArg (fun x => x.getLsbD (k - 64)) h2
    simp only [hi_bit] at this
    simpa only [show k - 64 < 64 by omega, show 64 + (k - 64) = k by omega, decide_true, Bool.true_and] using this

theorem WV_inj {x y : BitVec 64} (h : WV x = WV y) : x = y := by
  simp only [WV, Value.int.injEq, true_and] at h
  exact BitVec.eq_of_toNat_eq (by omega)

theorem SV_inj {s t : BitVec 128} (h : SV s = SV t) : s = t := by
  simp only [SV, Value.agg.injEq, Array.mk.injEq, List.cons.injEq, and_true] at h
  exact words_ext (WV_inj h.1) (WV_inj h.2)

theorem sHas_mem {s : BitVec 128} {v : Int} (h : sHas s v = true) : 1 ≤ v ∧ v ≤ 128 := by
  simp [sHas] at h; omega

theorem sets_ext {s t : BitVec 128} (h : ∀ v : Int, 1 ≤ v → v ≤ 128 → sHas s v = sHas t v) : s = t := by
  apply BitVec.eq_of_getLsbD_eq
  intro k hk
  have := h (k + 1) (by omega) (by omega)
  simpa [sHas, show ((k : Int) + 1 ≤ 128) by omega, show (1 : Int) ≤ (k : Int) + 1 by omega] using this

theorem sHas_bit (v u : Int) : sHas (sBit v) u = decide (u = v ∧ 1 ≤ v ∧ v ≤ 128) := by
  unfold sHas sBit
  by_cases h : 1 ≤ v ∧ v ≤ 128
  · rw [if_pos h]
    by_cases h1 : 1 ≤ u
    · by_cases h2 : u ≤ 128
      · by_cases h3 : u = v
        · subst h3; simp [h1, h2]; omega
        · simp [h1, h2, h3]; omega
      · simp [h2]; omega
    · simp [h1]; omega
  · rw [if_neg h]; simp; omega

theorem sHas_or (s t : BitVec 128) (v : Int) : sHas (s ||| t) v = (sHas s v || sHas t v) := by
  simp only [sHas, BitVec.getLsbD_or]
  cases decide (1 ≤ v) <;> cases decide (v ≤ 128) <;> simp
theorem sHas_and (s t : BitVec 128) (v : Int) : sHas (s &&& t) v = (sHas s v && sHas t v) := by
  simp only [sHas, BitVec.getLsbD_and]
  cases decide (1 ≤ v) <;> cases decide (v ≤ 128) <;> simp
theorem sHas_not (s : BitVec 128) (v : Int) (h1 : 1 ≤ v) (h2 : v ≤ 128) : sHas (~~~ s) v = !(sHas s v) := by
  simp [sHas, h1, h2]; omega
theorem sHas_zero (v : Int) : sHas 0#128 v = false := by simp [sHas]
theorem sHas_with (s : BitVec 128) (v u : Int) : sHas (sWith s v) u = (sHas s u || decide (u = v ∧ 1 ≤ v ∧ v ≤ 128)) := by
  rw [sWith, sHas_or, sHas_bit]
theorem sHas_without (s : BitVec 128) (v u : Int) : sHas (sWithout s v) u = (sHas s u && !decide (u = v)) := by
  rw [sWithout, sHas_and]
  by_cases h : 1 ≤ u ∧ u ≤ 128
  · rw [sHas_not _ _ h.1 h.2, sHas_bit]
    by_cases e : u = v
    · subst e; simp [h]
    · simp [e]
  · have : sHas s u = false := by
      cases hh : sHas s u
      · rfl
      · exact absurd (sHas_mem hh) h
    simp [this]
theorem sHas_all (n u : Int) : sHas (sAll n) u = decide (1 ≤ u ∧ u ≤ n ∧ u ≤ 128) := by
  unfold sHas sAll
  by_cases h1 : 1 ≤ u
  · by_cases h2 : u ≤ 128
    · simp only [h1, h2, decide_true, Bool.true_and, BitVec.getLsbD_ofNat, Nat.testBit_two_pow_sub_one, true_and, and_true]
      rw [Bool.eq_iff_iff]
      by_cases h3 : n ≤ 128
      · rw [Int.min_eq_left h3]; simp only [Bool.and_eq_true, decide_eq_true_eq]; omega
      · rw [Int.min_eq_right (by omega)]; simp only [Bool.and_eq_true, decide_eq_true_eq]; omega
    · simp [h2]
  · simp [h1]

/-! ### The bits as the machine computes them -/
theorem bvInt (x : BitVec 64) : BitVec.ofInt IntKind.u64.bits (x.toNat : Int) = x := by
  show BitVec.ofInt 64 (x.toNat : Int) = x
  rw [BitVec.ofInt_natCast]; simp
theorem wrap_nat (x : BitVec 64) : IntKind.u64.wrap (x.toNat : Int) = (x.toNat : Int) := by
  rw [IntKind.wrap_u64]
  have := x.isLt
  omega
theorem back_of {op : BinOp} {x y z : BitVec 64} (h : bits op .u64 (x.toNat : Int) (y.toNat : Int) = IntKind.u64.wrap (z.toNat : Int)) : bits op .u64 (x.toNat : Int) (y.toNat : Int) = (z.toNat : Int) := h.trans (wrap_nat z)
theorem bits_or (x y : BitVec 64) : bits .or .u64 (x.toNat : Int) (y.toNat : Int) = ((x ||| y).toNat : Int) := by
  rw [u64_or_nat _ _ x.isLt y.isLt]; simp
theorem bits_and (x y : BitVec 64) : bits .and .u64 (x.toNat : Int) (y.toNat : Int) = ((x &&& y).toNat : Int) := by
  rw [u64_and_nat _ _ x.isLt y.isLt]; simp
theorem bits_andNot (x y : BitVec 64) : bits .andNot .u64 (x.toNat : Int) (y.toNat : Int) = ((x &&& ~~~ y).toNat : Int) := by
  rw [u64_andNot_nat _ _ x.isLt y.isLt]; simp

theorem shift_one (k : Nat) (h : k < 64) : IntKind.u64.wrap (2 ^ k) = ((BitVec.twoPow 64 k).toNat : Int) := by
  have h1 : (2 : Int) ^ k = ((2 ^ k : Nat) : Int) := by norm_cast
  rw [IntKind.wrap_u64, BitVec.toNat_twoPow, h1, show (2 : Nat) ^ 64 = 18446744073709551616 from by decide]
  omega

theorem word_odd (x : BitVec 64) (k : Nat) : (((x.toNat : Int) / 2 ^ k).tmod 2 == 1) = x.getLsbD k := by
  have e : ((x.toNat : Int) / 2 ^ k) = ((x.toNat / 2 ^ k : Nat) : Int) := by norm_cast
  rw [e]
  generalize hq : x.toNat / 2 ^ k = q
  rw [Int.tmod_eq_emod_of_nonneg (by omega)]
  rw [BitVec.getLsbD, Nat.testBit_eq_decide_div_mod_eq, hq, Bool.eq_iff_iff]
  simp only [beq_iff_eq, decide_eq_true_eq]; omega

theorem and_twoPow (x : BitVec 64) (k : Nat) (h : k < 64) : (((x &&& BitVec.twoPow 64 k).toNat : Int) == 0) = !(x.getLsbD k) := by
  rw [BitVec.and_twoPow]
  by_cases e : x.getLsbD k = true
  · rw [if_pos e, e]
    have h1 : (BitVec.twoPow 64 k).toNat ≠ 0 := by
      rw [BitVec.toNat_twoPow, Nat.mod_eq_of_lt (Nat.pow_lt_pow_right (by omega) h)]
      exact Nat.ne_of_gt (Nat.two_pow_pos k)
    simp only [Bool.not_true, beq_eq_false_iff_ne, ne_eq]; omega
  · rw [if_neg e]; simp only [Bool.not_eq_true] at e; rw [e]; rfl

theorem lo_with (s : BitVec 128) (v : Int) (h1 : 1 ≤ v) (h2 : v ≤ 64) : lo (sWith s v) = lo s ||| BitVec.twoPow 64 (v - 1).toNat ∧ hi (sWith s v) = hi s := by
  unfold sWith sBit
  rw [if_pos ⟨by omega, by omega⟩]
  constructor
  · apply BitVec.eq_of_getLsbD_eq; intro k hk
    simp only [lo_bit, BitVec.getLsbD_or, BitVec.getLsbD_twoPow, hk, decide_true, Bool.true_and]
    have e : (decide ((v - 1).toNat < 128) && decide ((v - 1).toNat = k)) = (decide ((v - 1).toNat < 64) && decide ((v - 1).toNat = k)) := by
      rw [Bool.eq_iff_iff]; simp only [Bool.and_eq_true, decide_eq_true_eq, Bool.false_eq_true, iff_false]; omega
    rw [e]
  · apply BitVec.eq_of_getLsbD_eq; intro k hk
    simp only [hi_bit, BitVec.getLsbD_or, BitVec.getLsbD_twoPow, hk, decide_true, Bool.true_and]
    have e : (decide ((v - 1).toNat < 128) && decide ((v - 1).toNat = 64 + k)) = false := by
      rw [Bool.eq_iff_iff]; simp only [Bool.and_eq_true, decide_eq_true_eq, Bool.false_eq_true, iff_false]; omega
    rw [e]; simp; try omega
theorem hi_with (s : BitVec 128) (v : Int) (h1 : 65 ≤ v) (h2 : v ≤ 128) : lo (sWith s v) = lo s ∧ hi (sWith s v) = hi s ||| BitVec.twoPow 64 (v - 65).toNat := by
  unfold sWith sBit
  rw [if_pos ⟨by omega, by omega⟩]
  constructor
  · apply BitVec.eq_of_getLsbD_eq; intro k hk
    simp only [lo_bit, BitVec.getLsbD_or, BitVec.getLsbD_twoPow, hk, decide_true, Bool.true_and]
    have e : (decide ((v - 1).toNat < 128) && decide ((v - 1).toNat = k)) = false := by
      rw [Bool.eq_iff_iff]; simp only [Bool.and_eq_true, decide_eq_true_eq, Bool.false_eq_true, iff_false]; omega
    rw [e]; simp; try omega
  · apply BitVec.eq_of_getLsbD_eq; intro k hk
    simp only [hi_bit, BitVec.getLsbD_or, BitVec.getLsbD_twoPow, hk, decide_true, Bool.true_and]
    have e : (decide ((v - 1).toNat < 128) && decide ((v - 1).toNat = 64 + k)) = (decide ((v - 65).toNat < 64) && decide ((v - 65).toNat = k)) := by
      rw [Bool.eq_iff_iff]; simp only [Bool.and_eq_true, decide_eq_true_eq, Bool.false_eq_true, iff_false]; omega
    rw [e]
theorem lo_without (s : BitVec 128) (v : Int) (h1 : 1 ≤ v) (h2 : v ≤ 64) : lo (sWithout s v) = lo s &&& ~~~ BitVec.twoPow 64 (v - 1).toNat ∧ hi (sWithout s v) = hi s := by
  unfold sWithout sBit
  rw [if_pos ⟨by omega, by omega⟩]
  constructor
  · apply BitVec.eq_of_getLsbD_eq; intro k hk
    simp only [lo_bit, BitVec.getLsbD_and, BitVec.getLsbD_not, BitVec.getLsbD_twoPow, hk, decide_true, Bool.true_and]
    have e : (decide ((v - 1).toNat < 128) && decide ((v - 1).toNat = k)) = (decide ((v - 1).toNat < 64) && decide ((v - 1).toNat = k)) := by
      rw [Bool.eq_iff_iff]; simp only [Bool.and_eq_true, decide_eq_true_eq, Bool.false_eq_true, iff_false]; omega
    rw [e]; simp [show k < 128 by omega]
  · apply BitVec.eq_of_getLsbD_eq; intro k hk
    simp only [hi_bit, BitVec.getLsbD_and, BitVec.getLsbD_not, BitVec.getLsbD_twoPow, hk, decide_true, Bool.true_and]
    have e : (decide ((v - 1).toNat < 128) && decide ((v - 1).toNat = 64 + k)) = false := by
      rw [Bool.eq_iff_iff]; simp only [Bool.and_eq_true, decide_eq_true_eq, Bool.false_eq_true, iff_false]; omega
    rw [e]; simp; try omega
theorem hi_without (s : BitVec 128) (v : Int) (h1 : 65 ≤ v) (h2 : v ≤ 128) : lo (sWithout s v) = lo s ∧ hi (sWithout s v) = hi s &&& ~~~ BitVec.twoPow 64 (v - 65).toNat := by
  unfold sWithout sBit
  rw [if_pos ⟨by omega, by omega⟩]
  constructor
  · apply BitVec.eq_of_getLsbD_eq; intro k hk
    simp only [lo_bit, BitVec.getLsbD_and, BitVec.getLsbD_not, BitVec.getLsbD_twoPow, hk, decide_true, Bool.true_and]
    have e : (decide ((v - 1).toNat < 128) && decide ((v - 1).toNat = k)) = false := by
      rw [Bool.eq_iff_iff]; simp only [Bool.and_eq_true, decide_eq_true_eq, Bool.false_eq_true, iff_false]; omega
    rw [e]; simp; try omega
  · apply BitVec.eq_of_getLsbD_eq; intro k hk
    simp only [hi_bit, BitVec.getLsbD_and, BitVec.getLsbD_not, BitVec.getLsbD_twoPow, hk, decide_true, Bool.true_and]
    have e : (decide ((v - 1).toNat < 128) && decide ((v - 1).toNat = 64 + k)) = (decide ((v - 65).toNat < 64) && decide ((v - 65).toNat = k)) := by
      rw [Bool.eq_iff_iff]; simp only [Bool.and_eq_true, decide_eq_true_eq, Bool.false_eq_true, iff_false]; omega
    rw [e]; simp [show 64 + k < 128 by omega]
theorem sWith_none (s : BitVec 128) (v : Int) (h : v < 1 ∨ 128 < v) : sWith s v = s := by
  unfold sWith sBit; rw [if_neg (by omega)]; simp
theorem sWithout_none (s : BitVec 128) (v : Int) (h : v < 1 ∨ 128 < v) : sWithout s v = s := by
  unfold sWithout sBit; rw [if_neg (by omega), BitVec.not_zero, BitVec.and_allOnes]
theorem sHas_lo (s : BitVec 128) (v : Int) (h1 : 1 ≤ v) (h2 : v ≤ 64) : sHas s v = (lo s).getLsbD (v - 1).toNat := by
  simp [sHas, lo_bit, h1, show v ≤ 128 by omega]; omega
theorem sHas_hi (s : BitVec 128) (v : Int) (h1 : 65 ≤ v) (h2 : v ≤ 128) : sHas s v = (hi s).getLsbD (v - 65).toNat := by
  simp [sHas, hi_bit, show 1 ≤ v by omega, h2, show 64 + (v - 65).toNat = (v - 1).toNat by omega]; omega
theorem sHas_out (s : BitVec 128) (v : Int) (h : v < 1 ∨ 128 < v) : sHas s v = false := by
  cases hh : sHas s v
  · rfl
  · have := sHas_mem hh; omega
end Go.Proofs.YtafikekndefjcaaDoor
/- Vars: Contracts of package vars; no condition. -/
namespace Go.Proofs.YtafikekndefjcaaDoor
set_option linter.unusedVariables false
set_option linter.unusedSimpArgs false
set_option linter.unusedSectionVars false
open Go.RowKit

def Gives (w : World) (v : Value) (e : Ending) (w' : World) : Prop := e = .returned v ∧ Below w.heap.size w w'

theorem below0 (w : World) : Below w.heap.size w w := Below.refl _ _
theorem below1 (w : World) (o : Obj) : Below w.heap.size w (w.alloc o) := (Below.refl _ _).alloc (Nat.le_refl _) _
theorem below2 (w : World) (o o' : Obj) : Below w.heap.size w ((w.alloc o).alloc o') := (below1 w o).alloc (by simp) _
theorem below3 (w : World) (o o' o'' : Obj) : Below w.heap.size w (((w.alloc o).alloc o').alloc o'') := (below2 w o o').alloc (by simp; omega) _

set_option maxHeartbeats 400000 in
theorem place_no (v : Int) (w : World) (h : v < 1 ∨ 128 < v) :
    Calls Tryd.prog 74 #[.int .i64 v] w fun e w' => e = .returned (.tuple #[.int .i64 0, .int .u64 0, .bool false]) ∧ w = w' := by
  by_cases h1 : v < 1
  · clear h
    go_enter Tryd.func74, Tryd.ntmps74
    go_wp2
    go_ret3
    exact ⟨rfl, rfl⟩
  · have h2 : 128 < v := by omega
    clear h
    go_enter Tryd.func74, Tryd.ntmps74
    go_wp2
    go_ret3
    exact ⟨rfl, rfl⟩

theorem ret3_eq {a b c a' b' c' : Value} (h1 : a = a') (h2 : b = b') (h3 : c = c') : Ending.returned (.tuple #[a, b, c]) = Ending.returned (.tuple #[a', b', c']) := by rw [h1, h2, h3]

set_option maxHeartbeats 400000 in
theorem place_lo (v : Int) (w : World) (h1 : 1 ≤ v) (h2 : v ≤ 64) :
    Calls Tryd.prog 74 #[.int .i64 v] w fun e w' => e = .returned (.tuple #[.int .i64 0, WV (BitVec.twoPow 64 (v - 1).toNat), .bool true]) ∧ w = w' := by
  have HF := Lib.hid (show IntKind.u64.wrap (2 ^ ((v - 1) % 64).toNat) = ((BitVec.twoPow 64 (v - 1).toNat).toNat : Int) by
    rw [show ((v - 1) % 64).toNat = (v - 1).toNat by omega]; exact shift_one _ (by omega))
  go_enter Tryd.func74, Tryd.ntmps74
  go_wp2
  go_ret3
  exact ⟨ret3_eq (congrArg (Value.int .i64) (by omega)) (congrArg (Value.int .u64) HF.out) rfl, rfl⟩

set_option maxHeartbeats 400000 in
theorem place_hi (v : Int) (w : World) (h1 : 65 ≤ v) (h2 : v ≤ 128) :
    Calls Tryd.prog 74 #[.int .i64 v] w fun e w' => e = .returned (.tuple #[.int .i64 1, WV (BitVec.twoPow 64 (v - 65).toNat), .bool true]) ∧ w = w' := by
  have HF := Lib.hid (show IntKind.u64.wrap (2 ^ ((v - 1) % 64).toNat) = ((BitVec.twoPow 64 (v - 65).toNat).toNat : Int) by
    rw [show ((v - 1) % 64).toNat = (v - 65).toNat by omega]; exact shift_one _ (by omega))
  have h1' : 1 ≤ v := by omega
  go_enter Tryd.func74, Tryd.ntmps74
  go_wp2
  go_ret3
  exact ⟨ret3_eq (congrArg (Value.int .i64) (by omega)) (congrArg (Value.int .u64) HF.out) rfl, rfl⟩

theorem agg2_eq {a b a' b' : Value} (h1 : a = a') (h2 : b = b') : Ending.returned (.agg #[a, b]) = Ending.returned (.agg #[a', b']) := by rw [h1, h2]

set_option maxHeartbeats 400000 in
theorem with_c (s : BitVec 128) (v : Int) (w : World) :
    Calls Tryd.prog 55 #[SV s, .int .i64 v] w (Gives w (SV (sWith s v))) := by
  unfold SV WV
  by_cases h : v < 1 ∨ 128 < v
  · rw [sWith_none s v h]
    generalize lo s = x
    generalize hi s = y
    have hp := fun w => place_no v w h
    clear h
    go_enter Tryd.func55, Tryd.ntmps55
    go_wp2_with (go_at_call 74; refine (hp _).mono ?_; rintro e w' ⟨rfl, rfl⟩)
    exact bodyPost_ret (v := .agg #[.int .u64 (x.toNat : Int), .int .u64 (y.toNat : Int)]) (by simp [results, Tryd.results55, go_sem]) rfl ⟨rfl, below2 _ _ _⟩
  · by_cases h2 : v ≤ 64
    · have hp := fun w => place_lo v w (by omega) h2
      rw [(lo_with s v (by omega) h2).1, (lo_with s v (by omega) h2).2]
      unfold WV at hp
      generalize BitVec.twoPow 64 (v - 1).toNat = z at *
      generalize lo s = x
      generalize hi s = y
      have HF := Lib.hid (bits_or x z)
      clear h h2
      go_enter Tryd.func55, Tryd.ntmps55
      go_wp2_with (go_at_call 74; refine (hp _).mono ?_; rintro e w' ⟨rfl, rfl⟩)
      exact bodyPost_ret (v := .agg #[.int .u64 (bits .or .u64 (x.toNat : Int) (z.toNat : Int)), .int .u64 (y.toNat : Int)]) (by simp [results, Tryd.results55, go_sem]) rfl ⟨agg2_eq (by rw [HF.out]) rfl, below2 _ _ _⟩
    · have hp := fun w => place_hi v w (by omega) (by omega)
      rw [(hi_with s v (by omega) (by omega)).1, (hi_with s v (by omega) (by omega)).2]
      unfold WV at hp
      generalize BitVec.twoPow 64 (v - 65).toNat = z at *
      generalize lo s = x
      generalize hi s = y
      have HF := Lib.hid (bits_or y z)
      clear h h2
      go_enter Tryd.func55, Tryd.ntmps55
      go_wp2_with (go_at_call 74; refine (hp _).mono ?_; rintro e w' ⟨rfl, rfl⟩)
      exact bodyPost_ret (v := .agg #[.int .u64 (x.toNat : Int), .int .u64 (bits .or .u64 (y.toNat : Int) (z.toNat : Int))]) (by simp [results, Tryd.results55, go_sem]) rfl ⟨agg2_eq rfl (by rw [HF.out]), below2 _ _ _⟩

end Go.Proofs.YtafikekndefjcaaDoor
/- Vars2: Contracts of package vars, the second part: loops; no condition. -/
namespace Go.Proofs.YtafikekndefjcaaDoor
set_option linter.unusedVariables false
set_option linter.unusedSimpArgs false
set_option linter.unusedSectionVars false
open Go.RowKit

structure Two (w : World) (b : Nat) (e : TypeId) (x y : Value) : Prop where
  block : w.heap[b]? = some (.cells #[x, y] e (0, 0))

theorem Two.lt {w : World} {b : Nat} {e : TypeId} {x y : Value} (h : Two w b e x y) : b < w.heap.size := (Array.getElem?_eq_some_iff.1 h.block).1
theorem Two.c0 {w : World} {b : Nat} {e : TypeId} {x y : Value} (h : Two w b e x y) : w.cell? ⟨b, 0, none⟩ = some x := by simp [World.cell?, h.block]
theorem Two.c1 {w : World} {b : Nat} {e : TypeId} {x y : Value} (h : Two w b e x y) : w.cell? ⟨b, 1, none⟩ = some y := by simp [World.cell?, h.block]
theorem Two.f {w : World} {b : Nat} {e : TypeId} {x y : Value} (h : Two w b e x y) (o : Nat) : w.frozen? ⟨b, o, none⟩ = false := by
  simp [World.frozen?, h.block]
theorem Two.below {w w' : World} {b : Nat} {e : TypeId} {x y : Value} {B : Nat} (h : Two w b e x y) (k : Below B w w') (hb : b < B) : Two w' b e x y := ⟨by rw [k.block b hb]; exact h.block⟩
theorem Two.set {w : World} {b : Nat} {e : TypeId} {x y : Value} (h : Two w b e x y) (x' y' : Value) : Two ((w.setCell ⟨b, 0, none⟩ x').setCell ⟨b, 1, none⟩ y') b e x' y' := by
  constructor
  simp [World.setCell, h.block, Array.getElem?_modify]
theorem Two.other {w : World} {b : Nat} {e : TypeId} {x y : Value} (h : Two w b e x y) (a : Addr) (hne : b ≠ a.block) (u : Value) : Two (w.setCell a u) b e x y :=
  ⟨by rw [Below.heap_setCell _ _ _ _ hne]; exact h.block⟩
theorem Two.new (w : World) (e : TypeId) (x y : Value) : Two (w.alloc (.cells #[x, y] e)) w.heap.size e x y := ⟨heap_alloc_new w _⟩
theorem Two.alloc {w : World} {b : Nat} {e : TypeId} {x y : Value} (h : Two w b e x y) (o : Obj) : Two (w.alloc o) b e x y := ⟨by rw [Below.heap_alloc _ _ _ h.lt]; exact h.block⟩

theorem sAll_succ (n : Int) (h : 1 ≤ n) : sWith (sAll (n - 1)) n = sAll n := by
  apply sets_ext
  intro u h1 h2
  rw [sHas_with, sHas_all, sHas_all, Bool.eq_iff_iff]
  simp only [Bool.or_eq_true, decide_eq_true_eq]
  omega
theorem sAll_zero (n : Int) (h : n ≤ 0) : sAll n = 0#128 := by
  apply sets_ext
  intro u h1 h2
  rw [sHas_all, sHas_zero]
  simp; omega
theorem sAll_max (n : Int) (h : 128 ≤ n) : sAll n = sAll 128 := by
  apply sets_ext
  intro u h1 h2
  rw [sHas_all, sHas_all, Bool.eq_iff_iff]
  simp only [decide_eq_true_eq]; omega

set_option maxHeartbeats 400000 in
theorem all_c (n : Int) (w : World) : Calls Tryd.prog 43 #[.int .i64 n] w (Gives w (SV (sAll n))) := by
  go_enter Tryd.func43, Tryd.ntmps43
  go_wp2
  go_loopw [4] (fun i wr => ∃ k : Int, 1 ≤ k ∧ k ≤ 129 ∧ i = .int .i64 k ∧ Hid (k - 1 ≤ n ∨ k = 1) ∧ Two wr (w.heap.size + 1) 45 (WV (lo (sAll (k - 1)))) (WV (hi (sAll (k - 1)))) ∧ Two wr w.heap.size 45 (WV 0) (WV 0) ∧ Below w.heap.size w wr) (fun i _ => (129 - intOf i).toNat)
  case atStart =>
    refine ⟨1, by omega, by omega, rfl, .inr rfl, ?_, (Two.new w _ _ _).alloc _, below2 _ _ _⟩
    have := Two.new (w.alloc (Obj.cells #[Value.int IntKind.u64 0, Value.int IntKind.u64 0] 45)) 45 (WV 0) (WV 0)
    rw [show (1 : Int) - 1 = 0 from rfl, sAll_zero 0 (by omega), show lo 0#128 = 0 by decide, show hi 0#128 = 0 by decide]
    rw [show w.heap.size + 1 = (w.alloc (Obj.cells #[Value.int IntKind.u64 0, Value.int IntKind.u64 0] 45)).heap.size by simp]
    exact this
  case round =>
    obtain ⟨k, hk1, hk2, rfl, hk3, hv, hr, hb⟩ := hrel
    have l1 := hv.lt
    have g0 := hv.c0
    have g1 := hv.c1
    have r0 := hr.c0
    have r1 := hr.c1
    have rf0 := hr.f 0
    have rf1 := hr.f 1
    by_cases hlt : k ≤ 128 ∧ k ≤ n
    · obtain ⟨hlt1, hlt2⟩ := hlt
      have hp : ∀ W, Calls Tryd.prog 55 #[.agg #[WV (lo (sAll (k - 1))), WV (hi (sAll (k - 1)))], .int .i64 k] W (fun e w' => e = .returned (.agg #[WV (lo (sAll k)), WV (hi (sAll k))]) ∧ Below W.heap.size W w') := fun W => by
        have := with_c (sAll (k - 1)) k W
        rw [sAll_succ k hk1] at this
        exact this
      clear r0 r1 rf0 rf1
      by_cases hn : n ≤ 128
      all_goals
       go_wp2_with fail
       refine (hp _).mono ?_
       rintro e w1 ⟨rfl, hb1⟩
       have hv1 := hv.below hb1 l1
       have hr1 := hr.below hb1 hr.lt
       have l2 := hv1.lt
       have c0 := hv1.c0
       have c1 := hv1.c1
       have f0 := hv1.f 0
       have f1 := hv1.f 1
       clear g0 g1 hv
       go_wp2
       go_roundw
       case rel => exact ⟨k + 1, by omega, by omega, rfl, .inl (by omega), by rw [show k + 1 - 1 = k by omega]; exact hv1.set _ _, (hr1.other _ (by simp) _).other _ (by simp) _, ((hb.trans (hb1.mono hb.size)).setCell (by simp) _).setCell (by simp) _⟩
       case measure => simp [intOf]; omega
    · have hfin : sAll (k - 1) = sAll n := by
        have := hk3.out
        by_cases hn : n ≤ 128
        · by_cases h0 : n ≤ 0
          · rw [sAll_zero (k - 1) (by omega), sAll_zero n h0]
          · rw [show k - 1 = n by omega]
        · rw [show k - 1 = 128 by omega, sAll_max n (by omega)]
      have HF := Lib.hid hfin
      have q := hr.set (WV (lo (sAll (k - 1)))) (WV (hi (sAll (k - 1))))
      have q0 := q.c0
      have q1 := q.c1
      clear hfin q
      by_cases hlt1 : k ≤ 128
      · have hlt2 : n < k := by omega
        clear hlt
        go_wp2
        exact bodyPost_ret (v := .agg #[WV (lo (sAll (k - 1))), WV (hi (sAll (k - 1)))]) (by simp [results, Tryd.results43, go_sem, q0, q1]) rfl ⟨by rw [HF.out], (hb.setCell (by simp) _).setCell (by simp) _⟩
      · have hlt2 : 128 < k := by omega
        clear hlt
        go_wp2
        all_goals exact bodyPost_ret (v := .agg #[WV (lo (sAll (k - 1))), WV (hi (sAll (k - 1)))]) (by simp [results, Tryd.results43, go_sem, q0, q1]) rfl ⟨by rw [HF.out], (hb.setCell (by simp) _).setCell (by simp) _⟩
end Go.Proofs.YtafikekndefjcaaDoor
/- Ref04: Contracts of censusref04; no condition. -/
namespace Go.Proofs.YtafikekndefjcaaDoor
set_option linter.unusedVariables false
set_option linter.unusedSimpArgs false
set_option linter.unusedSectionVars false
open Go.RowKit

theorem take_succ_getD {α : Type} (xs : List α) (k : Nat) (h : k < xs.length) (d : α) : xs.take (k + 1) = xs.take k ++ [xs.getD k d] := by
  rw [List.take_succ_eq_append_getElem h]; simp [List.getD, h]

theorem getD_mem {α : Type} (xs : List α) (k : Nat) (h : k < xs.length) (d : α) : xs.getD k d ∈ xs := by
  simp [List.getD, h]

theorem Ints.open {F : Foot} {w : World} {v : Value} {xs : List Int} (h : Ints F w v xs) :
    ∃ a n c, v = .slice a n c ∧ n = xs.length ∧ n ≤ c ∧ n ≤ LenMax ∧ ∀ k, k < n → ∃ b o, a = some ⟨b, o, none⟩ ∧ w.cell? ⟨b, o + k, none⟩ = some (.int .i64 (xs.getD k 0)) ∧ I64 (xs.getD k 0) := by
  obtain ⟨a, n, c, h1, h2, h3, h4, _, h5⟩ := h
  simp only [List.cons.injEq, and_true] at h1
  refine ⟨a, n, c, h1, h2, h3, by unfold LenMax; simp only [eInt] at h4; omega, fun k hk => ?_⟩
  obtain ⟨b, o, raw, g1, g2, g3, g4⟩ := h5 k (by omega)
  obtain ⟨g5, g6⟩ := g4
  subst g5
  have := (g3 0 (by simp)).cell
  refine ⟨b, o, g1, ?_, ?_⟩
  · simpa [eInt, List.getD, show k < xs.length by omega] using this
  · simpa [List.getD, show k < xs.length by omega] using g6

theorem Ints.at {F : Foot} {w : World} {a : Option Addr} {n c : Nat} {xs : List Int} (h : Ints F w (.slice a n c) xs) (k : Nat) (hk : k < n) :
    ∃ b o, a = some ⟨b, o, none⟩ ∧ w.cell? ⟨b, o + k, none⟩ = some (.int .i64 (xs.getD k 0)) ∧ I64 (xs.getD k 0) := by
  obtain ⟨a', n', c', he, _, _, _, h5⟩ := h.open
  cases he
  exact h5 k hk

def litVar (l : Int) : Int := if 1 ≤ l ∧ l ≤ 128 then l else if -128 ≤ l ∧ l ≤ -1 then -l else 0
def litOk (l n : Int) : Bool := decide (0 < litVar l) && decide (litVar l ≤ n)
theorem litVar_range (l : Int) : 0 ≤ litVar l ∧ litVar l ≤ 128 := by unfold litVar; split <;> (try split) <;> omega
theorem litVar_pos {l : Int} (h : 1 ≤ l) (h2 : l ≤ 128) : litVar l = l := by unfold litVar; rw [if_pos ⟨h, h2⟩]
theorem litVar_neg {l : Int} (h : -128 ≤ l) (h2 : l ≤ -1) : litVar l = -l := by unfold litVar; rw [if_neg (by omega), if_pos ⟨h, h2⟩]
theorem litVar_no {l : Int} (h : l < -128 ∨ l = 0 ∨ 128 < l) : litVar l = 0 := by unfold litVar; rw [if_neg (by omega), if_neg (by omega)]





theorem I64.neg {y : Int} (h : 0 < litVar y) : I64 (-y) := by
  unfold litVar at h; unfold I64
  split at h
  · omega
  · split at h <;> omega


end Go.Proofs.YtafikekndefjcaaDoor
/- Grow: Worlds that have grown, as a class of worlds for regions that leave their order open; plain lemmas over any program; no condition. -/
namespace Go.Proofs.YtafikekndefjcaaDoor
set_option linter.unusedVariables false
set_option linter.unusedSimpArgs false
set_option linter.unusedSectionVars false
open Go.RowKit

structure Grow where
  objs : Array Obj
  drawn : Nat
instance : Inhabited Grow := ⟨⟨#[], 0⟩⟩

def plus (W : World) (g : Grow) : World := { W with heap := W.heap ++ g.objs, drawn := g.drawn }

theorem plus_heap (W : World) (g : Grow) (k : Nat) (h : k < W.heap.size) : (plus W g).heap[k]? = W.heap[k]? := by
  show (W.heap ++ g.objs)[k]? = _
  rw [Array.getElem?_append_left h]
theorem below_plus (W : World) (g : Grow) : Below W.heap.size W (plus W g) := ⟨rfl, rfl, rfl, by simp [plus], fun k hk => plus_heap W g k hk⟩
theorem plus_of_below {W w' : World} (h : Below W.heap.size W w') : ∃ g, w' = plus W g := by
  refine ⟨⟨w'.heap.extract W.heap.size w'.heap.size, w'.drawn⟩, ?_⟩
  cases w' with
  | mk heap tape drawn os output =>
    obtain ⟨h1, h2, h3, h4, h5⟩ := h
    simp only at h1 h2 h3 h4 h5
    subst h1 h2 h3
    simp only [plus, World.mk.injEq, and_true, true_and]
    apply Array.ext'
    apply List.ext_getElem?
    intro k
    simp only [Array.getElem?_toList]
    by_cases hk : k < W.heap.size
    · rw [h5 k hk, Array.getElem?_append_left hk]
    · rw [Array.getElem?_append_right (by omega)]
      simp only [Array.getElem?_extract]
      by_cases hk2 : k < heap.size
      · rw [if_pos (by omega)]; congr 1; omega
      · rw [if_neg (by omega), Array.getElem?_eq_none (by omega)]
theorem cell_plus {W : World} {b o : Nat} {v : Value} (h : W.cell? ⟨b, o, none⟩ = some v) (g : Grow) : (plus W g).cell? ⟨b, o, none⟩ = some v := by
  rw [(below_plus W g).cell (p := ⟨b, o, none⟩) (World.block_lt_of_cell? W _ h)]; exact h
theorem plus_plus (W : World) (g k : Grow) : ∃ l, plus (plus W g) k = plus W l := plus_of_below ((below_plus W g).trans ((below_plus _ k).mono (below_plus W g).size))

theorem Calls.grow_of {P : Program} {f : FuncId} {args : Array Value} {w : World} {g : Grow} {v : Value}
    (h : Calls P f args (plus w g) fun e w' => e = .returned v ∧ Below (plus w g).heap.size (plus w g) w') : Calls P f args (plus w g) fun e w'' => e = .returned v ∧ ∃ k, w'' = plus w k :=
  h.mono fun _ _ ⟨he, hb⟩ => ⟨he, plus_of_below ((below_plus w g).trans (hb.mono (below_plus w g).size))⟩

theorem wp_region_grow_lit {P : Program} {id : Nat} {Q : Exit → Act → World → Prop} {a : Act} {w : World} {l : List Oper} (hm : P.follows .mixedOrders = true) (hB : Region.lexB .any l.toArray = true)
    (h : wpQuiet P l.toArray (fun w' => ∃ g, w' = plus w g) (fun a' => ∀ w', (∃ g, w' = plus w g) → Q .normal a' w') l a) : (Code.region id l.toArray true).wp P Q a w :=
  wp_region_quiet (C := fun w' => ∃ g, w' = plus w g) hm hB (plus_of_below ⟨rfl, rfl, rfl, Nat.le_refl _, fun _ _ => rfl⟩) (by simpa using h)
end Go.Proofs.YtafikekndefjcaaDoor
/- Ref04b: Contracts of censusref04 on sets; no condition. -/
namespace Go.Proofs.YtafikekndefjcaaDoor
set_option linter.unusedVariables false
set_option linter.unusedSimpArgs false
set_option linter.unusedSectionVars false
open Go.RowKit


def litHolds (s : BitVec 128) (l : Int) : Bool := decide (0 < litVar l) && (sHas s (litVar l) == decide (0 < l))


end Go.Proofs.YtafikekndefjcaaDoor
/- Ref05: Contracts of censusref05: Valid, Has, Holds, Assignment, Check; no condition. -/
namespace Go.Proofs.YtafikekndefjcaaDoor
set_option linter.unusedVariables false
set_option linter.unusedSimpArgs false
set_option linter.unusedSectionVars false
open Go.RowKit

theorem IntRows.at {F : Foot} {w : World} {a : Option Addr} {n c : Nat} {L : List (List Int)} (h : IntRows F w (.slice a n c) L) (k : Nat) (hk : k < n) :
    ∃ b o a2 n2 c2, a = some ⟨b, o, none⟩ ∧ w.cell? ⟨b, o + k, none⟩ = some (.slice a2 n2 c2) ∧ Ints F w (.slice a2 n2 c2) (L.getD k []) ∧ Hid (n2 = (L.getD k []).length) ∧ n2 ≤ 17592186044416 := by
  obtain ⟨a', n', c', h1, h2, h3, h4, _, h5⟩ := h
  simp only [List.cons.injEq, and_true, Value.slice.injEq] at h1
  obtain ⟨rfl, rfl, rfl⟩ := h1
  obtain ⟨b, o, raw, g1, g2, g3, g4⟩ := h5 k (by omega)
  obtain ⟨a2, n2, c2, g5, g6, g7, g8, g0, g9⟩ := g4
  have e : L.getD k [] = L[k]'(by omega) := by simp [List.getD, show k < L.length by omega]
  subst g5
  have := (g3 0 (by simp)).cell
  rw [e]
  exact ⟨b, o, a2, n2, c2, g1, by simpa [eList] using this, ⟨a2, n2, c2, rfl, g6, g7, g8, g0, g9⟩, g6, by simp only [eInt] at g8; omega⟩

theorem IntRows.open {F : Foot} {w : World} {v : Value} {L : List (List Int)} (h : IntRows F w v L) :
    ∃ a n c, v = .slice a n c ∧ Hid (n = L.length) ∧ n ≤ c ∧ n ≤ 5864062014805 := by
  obtain ⟨a', n', c', h1, h2, h3, h4, _, h5⟩ := h
  simp only [List.cons.injEq, and_true] at h1
  exact ⟨a', n', c', h1, h2, h3, by simp only [eList] at h4; omega⟩

set_option maxHeartbeats 400000 in
theorem ref05Valid_c (l n : Int) (w : World) (hl : I64 l) (h0 : 0 ≤ n) (h1 : n ≤ 128) :
    Calls Tryd.prog 75 #[.int .i64 l, .int .i64 n] w fun e w' => e = .returned (.bool (litOk l n)) ∧ w = w' := by
  unfold I64 at hl
  obtain ⟨hl1, hl2⟩ := hl
  have HF := Lib.hid (show litOk l n = (decide (l ≠ 0) && decide (-n ≤ l) && decide (l ≤ n)) by
    unfold litOk litVar
    rw [Bool.eq_iff_iff]
    simp only [Bool.and_eq_true, decide_eq_true_eq]
    split
    · omega
    · split <;> omega)
  by_cases e0 : l = 0
  · subst e0
    go_enter Tryd.func75, Tryd.ntmps75
    go_wp2
    go_ret
    exact ⟨by rw [HF.out]; simp, rfl⟩
  · have hne : (l != 0) = true := by simp [e0]
    by_cases e1 : -n ≤ l
    · go_enter Tryd.func75, Tryd.ntmps75
      go_wp2
      go_ret
      exact ⟨by rw [HF.out]; simp [e0, e1], rfl⟩
    · have e1' : l < -n := by omega
      go_enter Tryd.func75, Tryd.ntmps75
      go_wp2
      go_ret
      exact ⟨by rw [HF.out]; simp; omega, rfl⟩

set_option maxHeartbeats 400000 in
theorem ref05Has_c (s : BitVec 128) (v : Int) (w : World) : Calls Tryd.prog 40 #[SV s, .int .i64 v] w (Gives w (.bool (sHas s v))) := by
  unfold SV WV
  rcases (by omega : v < 1 ∨ 128 < v ∨ (1 ≤ v ∧ v ≤ 64) ∨ (65 ≤ v ∧ v ≤ 128)) with h | h | ⟨h1, h3⟩ | ⟨h1, h2⟩
  · rw [sHas_out s v (.inl h)]
    generalize lo s = x
    generalize hi s = y
    go_enter Tryd.func40, Tryd.ntmps40
    go_wp2
    go_ret
    exact ⟨rfl, below1 _ _⟩
  · rw [sHas_out s v (.inr h)]
    generalize lo s = x
    generalize hi s = y
    have h' : 1 ≤ v := by omega
    go_enter Tryd.func40, Tryd.ntmps40
    go_wp2
    go_ret
    exact ⟨rfl, below1 _ _⟩
  · rw [sHas_lo s v h1 h3]
    have HF := Lib.hid (word_odd (lo s) (v - 1).toNat)
    generalize lo s = x at *
    generalize hi s = y at *
    have h2 : v ≤ 128 := by omega
    have h4 : (v - 1) / 64 = 0 := by omega
    have h5 : (v - 1) % 64 = v - 1 := by omega
    go_enter Tryd.func40, Tryd.ntmps40
    go_wp2
    go_ret
    exact ⟨congrArg (fun b => Ending.returned (.bool b)) (by first | exact HF.out | (rw [show v.toNat - 1 = (v - 1).toNat by omega]; exact HF.out)), below1 _ _⟩
  · rw [sHas_hi s v (by omega) h2]
    have HF := Lib.hid (word_odd (hi s) (v - 65).toNat)
    generalize lo s = x at *
    generalize hi s = y at *
    have h1' : 1 ≤ v := by omega
    have h4 : (v - 1) / 64 = 1 := by omega
    have h5 : (v - 1) % 64 = v - 65 := by omega
    go_enter Tryd.func40, Tryd.ntmps40
    go_wp2
    go_ret
    exact ⟨congrArg (fun b => Ending.returned (.bool b)) HF.out, below1 _ _⟩

def holds05 (s : BitVec 128) (l : Int) : Bool := if l < 0 then !sHas s (-l) else sHas s l

theorem holds05_eq {s : BitVec 128} {l n : Int} (h : litOk l n = true) : holds05 s l = litHolds s l := by
  unfold holds05 litHolds
  unfold litOk at h
  simp only [Bool.and_eq_true, decide_eq_true_eq] at h
  obtain ⟨h1, h2⟩ := h
  rw [decide_eq_true h1, Bool.true_and]
  by_cases hl : l < 0
  · have : litVar l = -l := by unfold litVar at *; split at h1 <;> (try split at h1) <;> (try split) <;> omega
    rw [if_pos hl, this, decide_eq_false (by omega)]; cases sHas s (-l) <;> rfl
  · have : litVar l = l := by unfold litVar at *; split at h1 <;> (try split at h1) <;> (try split) <;> omega
    rw [if_neg hl, this, decide_eq_true (by rw [← this]; exact h1)]; cases sHas s l <;> rfl


def sUpto (s : BitVec 128) (n : Int) : Bool := decide (∀ k : Nat, k < 128 → n ≤ k → s.getLsbD k = false)
theorem sUpto_iff (s : BitVec 128) (n : Int) (hn : 0 ≤ n) : sUpto s n = true ↔ ∀ v : Int, n < v → sHas s v = false := by
  unfold sUpto
  rw [decide_eq_true_eq]
  constructor
  · intro h v hv
    by_cases h2 : v ≤ 128
    · have := h (v - 1).toNat (by omega) (by omega)
      unfold sHas
      rw [this, Bool.and_false]
    · exact sHas_out s v (.inr (by omega))
  · intro h k hk hn2
    have := h (k + 1) (by omega)
    simpa [sHas, show ((k : Int) + 1 ≤ 128) by omega, show (1 : Int) ≤ (k : Int) + 1 by omega] using this


def checkRow (N : Int) (c : List Int) : Int := if 128 < c.length then 2 else if c.all (fun l => litOk l N) then 0 else 1
def checkRows (N : Int) : List (List Int) → Int
  | [] => 0
  | c :: r => if checkRow N c = 0 then checkRows N r else checkRow N c
def checkT (N : Int) (L : List (List Int)) : Int := if N < 0 ∨ 128 < N then 6 else if 4096 < L.length then 2 else checkRows N L

theorem checkRows_at (N : Int) : ∀ (L : List (List Int)) (k : Nat), k < L.length → (∀ j, j < k → checkRow N (L.getD j []) = 0) → checkRow N (L.getD k []) ≠ 0 → checkRows N L = checkRow N (L.getD k [])
  | [], k, h, _, _ => by simp at h
  | c :: r, 0, _, _, h2 => by simp at h2; simp [checkRows, h2]
  | c :: r, k + 1, h, h1, h2 => by
    have h0 := h1 0 (by omega)
    simp at h0
    rw [checkRows, if_pos h0]
    have := checkRows_at N r k (by simpa using h) (fun j hj => by have := h1 (j + 1) (by omega); simpa using this) (by simpa using h2)
    simpa using this
theorem checkRows_all (N : Int) : ∀ (L : List (List Int)), (∀ j, j < L.length → checkRow N (L.getD j []) = 0) → checkRows N L = 0
  | [], _ => rfl
  | c :: r, h => by
    have h0 := h 0 (by simp)
    simp at h0
    rw [checkRows, if_pos h0]
    exact checkRows_all N r (fun j hj => by have := h (j + 1) (by simpa using hj); simpa using this)

set_option maxHeartbeats 800000 in
theorem ref05Check_c {F : Foot} {w : World} {v : Value} {L : List (List Int)} (N : Int) (hN : I64 N) (h : IntRows F w v L) :
    Calls Tryd.prog 56 #[.agg #[.int .i64 N, v]] w (Gives w (.int .i64 (checkT N L))) := by
  obtain ⟨a, n, c, rfl, HE, _, hm⟩ := h.open
  unfold I64 at hN
  obtain ⟨hN1, hN2⟩ := hN
  have HR := Lib.hid h
  clear h
  unfold checkT
  rcases (by omega : N < 0 ∨ 128 < N ∨ (0 ≤ N ∧ N ≤ 128)) with h | h | ⟨h0, h1⟩
  · rw [if_pos (.inl h)]
    go_enter Tryd.func56, Tryd.ntmps56
    go_wp2
    go_ret
    exact ⟨rfl, below1 _ _⟩
  · rw [if_pos (.inr h)]
    have h' : 0 ≤ N := by omega
    go_enter Tryd.func56, Tryd.ntmps56
    go_wp2
    go_ret
    exact ⟨rfl, below1 _ _⟩
  rw [if_neg (by omega)]
  by_cases h2 : 4096 < n
  · rw [if_pos (by rw [← HE.out]; exact h2)]
    go_enter Tryd.func56, Tryd.ntmps56
    go_wp2
    go_ret
    exact ⟨rfl, below1 _ _⟩
  rw [if_neg (by rw [← HE.out]; exact h2)]
  have hp := fun l w hl => ref05Valid_c l N w hl h0 h1
  have HP := Lib.hid hp
  clear hp
  go_enter Tryd.func56, Tryd.ntmps56
  go_wp2
  go_loopw [3] (fun i wr => ∃ k : Nat, k ≤ n ∧ i = .int .i64 k ∧ Hid (∀ j, j < k → checkRow N (L.getD j []) = 0) ∧ Two wr w.heap.size 24 (.int .i64 N) (.slice a n c) ∧ Below w.heap.size w wr) (fun i _ => n - (intOf i).toNat)
  case atStart => exact ⟨0, Nat.zero_le _, rfl, by intro j hj; omega, Two.new _ _ _ _, below1 _ _⟩
  case round =>
    obtain ⟨k, hk, rfl, hno, hv, hb⟩ := hrel
    obtain ⟨wo, rfl⟩ : ∃ wo : World, wo = wr := ⟨_, rfl⟩
    have g0 := hv.c0
    have g1 := hv.c1
    by_cases hlt : k < n
    · have hI : IntRows F wo (.slice a n c) L := Enc.below _ HR.out hb
      obtain ⟨b, o, a2, n2, c2, rfl, hcell, hrow, HE2, hm2⟩ := hI.at k hlt
      have HI := Lib.hid hrow
      clear hI hrow
      by_cases h3 : 128 < n2
      · go_wp2
        go_ret
        have e : checkRow N (L.getD k []) = 2 := by unfold checkRow; rw [if_pos (by rw [← HE2.out]; exact h3)]
        exact ⟨congrArg (fun x => Ending.returned (.int .i64 x)) (by rw [checkRows_at N L k (by rw [← HE.out]; exact hlt) hno.out (by rw [e]; decide), e]), hb⟩
      · go_wp2
        go_loopw [4] (fun i wr => ∃ j : Nat, j ≤ n2 ∧ i = .int .i64 j ∧ Hid (∀ l ∈ (L.getD k []).take j, litOk l N = true) ∧ Two wr w.heap.size 24 (.int .i64 N) (.slice (some ⟨b, o, none⟩) n c) ∧ Below wo.heap.size wo wr) (fun i _ => n2 - (intOf i).toNat)
        case atStart => exact ⟨0, Nat.zero_le _, rfl, by intro l hl; simp at hl, hv, below0 _⟩
        case round =>
          obtain ⟨j, hj, rfl, hno2, hv2, hb2⟩ := hrel
          have hcell2 := hb2.cell (p := ⟨b, o + k, none⟩) (World.block_lt_of_cell? _ _ hcell)
          rw [hcell] at hcell2
          have q0 := hv2.c0
          have q1 := hv2.c1
          by_cases hlt2 : j < n2
          · have hI2 : Ints F wr (.slice a2 n2 c2) (L.getD k []) := Enc.below _ HI.out hb2
            obtain ⟨b2, o2, rfl, hcell3, hr⟩ := hI2.at j hlt2
            have HM := Lib.hid (getD_mem (L.getD k []) j (by have := HE2.out; omega) 0)
            have HS := Lib.hid (take_succ_getD (L.getD k []) j (by have := HE2.out; omega) 0)
            clear hI2
            generalize hz : (L.getD k []).getD j 0 = z at *
            clear hz
            have hp := fun w => HP.out z w hr
            have p0 := fun g => cell_plus q0 g
            have p1 := fun g => cell_plus q1 g
            have p2 := fun g => cell_plus hcell2 g
            have p3 := fun g => cell_plus hcell3 g
            have hk0 : (0 : Int) ≤ k := by omega
            have hk1 : (k : Int) < n := by omega
            have hj0 : (0 : Int) ≤ j := by omega
            have hj1 : (j : Int) < n2 := by omega
            have HZ := Lib.hid hr
            clear hr hcell hcell3 g0 g1
            cases hq : litOk z N
            all_goals
              simp only [hq] at hp
              have HQ := Lib.hid hq
              clear hq
              go_wp2
              refine wp_region_grow_lit (by kernel_rfl) (by kernel_rfl) ?_
              repeat (go_big_quiet_step ((go_at_call 75; exact Calls.grow_of ((hp _).mono fun _ _ ⟨he, hw⟩ => ⟨he, hw ▸ below0 _⟩))))
              refine wpQuiet_nil ?_
              intro _ hw1
              obtain ⟨gg, hw2⟩ := hw1
              subst hw2
              have hb3 := hb2.trans ((below_plus wr gg).mono hb2.size)
              have hv3 := hv2.below (below_plus wr gg) hv2.lt
              go_wp2
            · go_ret
              have e : checkRow N (L.getD k []) = 1 := by
                unfold checkRow
                rw [if_neg (by rw [← HE2.out]; exact h3), if_neg]
                rw [List.all_eq_true]; intro hh; have := hh z HM.out; rw [HQ.out] at this; cases this
              exact ⟨congrArg (fun x => Ending.returned (.int .i64 x)) (by rw [checkRows_at N L k (by rw [← HE.out]; exact hlt) hno.out (by rw [e]; decide), e]), hb.trans (hb3.mono hb.size)⟩
            · go_roundw
              case rel => exact ⟨j + 1, by omega, by go_num, by intro y hy; rw [HS.out, List.mem_append, List.mem_singleton] at hy; rcases hy with hy | rfl; exact hno2.out y hy; exact HQ.out, hv3, hb3⟩
              case measure => simp [intOf]; omega
          · go_wp2
            go_roundw
            case rel =>
              refine ⟨k + 1, by omega, by go_num, ?_, hv2, hb.trans (hb2.mono hb.size)⟩
              intro i hi
              by_cases e : i < k
              · exact hno.out i e
              · obtain rfl : i = k := by omega
                have hall := hno2.out
                rw [List.take_of_length_le (by have := HE2.out; omega)] at hall
                unfold checkRow
                rw [if_neg (by rw [← HE2.out]; exact h3), if_pos (List.all_eq_true.2 hall)]
            case measure => simp [intOf]; omega
    · go_wp2
      go_ret
      exact ⟨congrArg (fun x => Ending.returned (.int .i64 x)) (by rw [checkRows_all N L (fun j hj => hno.out j (by have := HE.out; omega))]), hb⟩
end Go.Proofs.YtafikekndefjcaaDoor
/- Ref05b: Contract of censusref05.Eval; no condition. -/
namespace Go.Proofs.YtafikekndefjcaaDoor
set_option linter.unusedVariables false
set_option linter.unusedSimpArgs false
set_option linter.unusedSectionVars false
open Go.RowKit

theorem litOk_range {l n : Int} (h : litOk l n = true) : -128 ≤ l ∧ l ≤ 128 ∧ l ≠ 0 ∧ -n ≤ l ∧ l ≤ n := by
  unfold litOk at h
  simp only [Bool.and_eq_true, decide_eq_true_eq] at h
  obtain ⟨h1, h2⟩ := h
  unfold litVar at *
  split at h1
  · split at h2 <;> omega
  · split at h1
    · rw [if_neg (by omega), if_pos (by omega)] at h2; omega
    · omega

theorem checkRows_ok {N : Int} : ∀ {L : List (List Int)}, checkRows N L = 0 → ∀ c ∈ L, c.length ≤ 128 ∧ ∀ l ∈ c, litOk l N = true
  | [], _, c, hc => by cases hc
  | d :: r, h, c, hc => by
    rw [checkRows] at h
    by_cases h0 : checkRow N d = 0
    · rw [if_pos h0] at h
      rcases List.mem_cons.1 hc with rfl | hc
      · unfold checkRow at h0
        split at h0
        · cases h0
        · split at h0
          · rename_i h1 h2; exact ⟨by omega, List.all_eq_true.1 h2⟩
          · cases h0
      · exact checkRows_ok h c hc
    · rw [if_neg h0] at h; exact absurd h h0

theorem checkT_ok {N : Int} {L : List (List Int)} (h : checkT N L = 0) : 0 ≤ N ∧ N ≤ 128 ∧ L.length ≤ 4096 ∧ ∀ c ∈ L, c.length ≤ 128 ∧ ∀ l ∈ c, litOk l N = true := by
  unfold checkT at h
  split at h
  · cases h
  · split at h
    · cases h
    · exact ⟨by omega, by omega, by omega, checkRows_ok h⟩

theorem checkT_range (N : Int) (L : List (List Int)) : 0 ≤ checkT N L ∧ checkT N L ≤ 6 := by
  have h : ∀ L, 0 ≤ checkRows N L ∧ checkRows N L ≤ 2 := by
    intro L
    induction L with
    | nil => simp [checkRows]
    | cons c r ih =>
      rw [checkRows]
      split
      · exact ih
      · unfold checkRow; split <;> (try split) <;> omega
  have := h L
  unfold checkT
  split <;> (try split) <;> omega

def evalT (N : Int) (L : List (List Int)) (s : BitVec 128) : Bool := decide (checkT N L = 0) && sUpto s N && L.all (fun c => c.any (litHolds s))

theorem any_snoc {α : Type} (p : α → Bool) (l : List α) (x : α) : (l ++ [x]).any p = (l.any p || p x) := by simp
theorem all_snoc {α : Type} (p : α → Bool) (l : List α) (x : α) : (l ++ [x]).all p = (l.all p && p x) := by simp

end Go.Proofs.YtafikekndefjcaaDoor
/- Lit: Contracts of lit.Var, lit.Valid, lit.compare, slices.Index, slices.Contains, theory.Check; no condition. -/
namespace Go.Proofs.YtafikekndefjcaaDoor
set_option linter.unusedVariables false
set_option linter.unusedSimpArgs false
set_option linter.unusedSectionVars false
open Go.RowKit

set_option maxHeartbeats 400000 in
theorem litVar_c (l : Int) (w : World) (hl : I64 l) :
    Calls Tryd.prog 37 #[.int .i64 l] w fun e w' => e = .returned (.int .i64 (litVar l)) ∧ w = w' := by
  unfold I64 at hl
  obtain ⟨hl1, hl2⟩ := hl
  rcases (by omega : (1 ≤ l ∧ l ≤ 128) ∨ (-128 ≤ l ∧ l ≤ -1) ∨ l < -128 ∨ l = 0 ∨ 128 < l) with ⟨h1, h2⟩ | ⟨h1, h2⟩ | h1 | h1 | h1
  · rw [litVar_pos h1 h2]
    go_enter Tryd.func37, Tryd.ntmps37
    go_wp2
    go_ret
    exact ⟨rfl, rfl⟩
  · rw [litVar_neg h1 h2]
    have h3 : l < 1 := by omega
    go_enter Tryd.func37, Tryd.ntmps37
    go_wp2
    go_ret
    exact ⟨rfl, rfl⟩
  · rw [litVar_no (.inl h1)]
    have h3 : l < 1 := by omega
    go_enter Tryd.func37, Tryd.ntmps37
    go_wp2
    go_ret
    exact ⟨rfl, rfl⟩
  · subst h1
    go_enter Tryd.func37, Tryd.ntmps37
    go_wp2
    go_ret
    exact ⟨rfl, rfl⟩
  · rw [litVar_no (.inr (.inr h1))]
    have h3 : 1 ≤ l := by omega
    go_enter Tryd.func37, Tryd.ntmps37
    go_wp2
    go_ret
    exact ⟨rfl, rfl⟩

set_option maxHeartbeats 400000 in
theorem litValid_c (l n : Int) (w : World) (hl : I64 l) :
    Calls Tryd.prog 60 #[.int .i64 l, .int .i64 n] w fun e w' => e = .returned (.bool (litOk l n)) ∧ w = w' := by
  have hp := fun w => litVar_c l w hl
  have hr := litVar_range l
  unfold litOk
  clear hl
  generalize litVar l = x at *
  obtain ⟨hr1, hr2⟩ := hr
  by_cases h1 : x = 0
  · subst h1
    go_enter Tryd.func60, Tryd.ntmps60
    go_wp2_with (go_at_call 37; refine (hp _).mono ?_; rintro e w' ⟨rfl, rfl⟩)
    go_ret
    exact ⟨rfl, rfl⟩
  · have h2 : (x != 0) = true := by simp [h1]
    go_enter Tryd.func60, Tryd.ntmps60
    go_wp2_with (go_at_call 37; refine (hp _).mono ?_; rintro e w' ⟨rfl, rfl⟩)
    go_ret
    exact ⟨by simp; omega, rfl⟩

def cmpLit (a b : Int) : Int := if litVar a = litVar b then a - b else litVar a - litVar b
set_option maxHeartbeats 400000 in
theorem litCompare_c (a b : Int) (w : World) (ha : -128 ≤ a) (ha' : a ≤ 128) (hb : -128 ≤ b) (hb' : b ≤ 128) :
    Calls Tryd.prog 84 #[.int .i64 a, .int .i64 b] w fun e w' => e = .returned (.int .i64 (cmpLit a b)) ∧ w = w' := by
  have hp := fun w => litVar_c a w ⟨by omega, by omega⟩
  have hq := fun w => litVar_c b w ⟨by omega, by omega⟩
  have hr := litVar_range a
  have hs := litVar_range b
  unfold cmpLit
  generalize litVar a = x at *
  generalize litVar b = y at *
  obtain ⟨hr1, hr2⟩ := hr
  obtain ⟨hs1, hs2⟩ := hs
  by_cases h : x = y
  · rw [if_pos h]
    subst h
    go_enter Tryd.func84, Tryd.ntmps84
    go_wp2_with fail
    refine (hp _).mono ?_
    rintro e w' ⟨rfl, rfl⟩
    go_wp2_with fail
    refine (hq _).mono ?_
    rintro e w' ⟨rfl, rfl⟩
    go_wp2
    go_ret
    exact ⟨rfl, rfl⟩
  · rw [if_neg h]
    have h2 : (x != y) = true := by simp [h]
    go_enter Tryd.func84, Tryd.ntmps84
    go_wp2_with fail
    refine (hp _).mono ?_
    rintro e w' ⟨rfl, rfl⟩
    go_wp2_with fail
    refine (hq _).mono ?_
    rintro e w' ⟨rfl, rfl⟩
    go_wp2
    go_ret
    exact ⟨rfl, rfl⟩


set_option maxHeartbeats 800000 in
theorem theoryCheck_c {F : Foot} {w : World} {v : Value} {L : List (List Int)} (N : Int) (hN : I64 N) (h : IntRows F w v L) :
    Calls Tryd.prog 41 #[.agg #[.int .i64 N, v]] w (Gives w (.int .i64 (checkT N L))) := by
  obtain ⟨a, n, c, rfl, HE, _, hm⟩ := h.open
  unfold I64 at hN
  obtain ⟨hN1, hN2⟩ := hN
  have HR := Lib.hid h
  clear h
  unfold checkT
  rcases (by omega : N < 0 ∨ 128 < N ∨ (0 ≤ N ∧ N ≤ 128)) with h | h | ⟨h0, h1⟩
  · rw [if_pos (.inl h)]
    go_enter Tryd.func41, Tryd.ntmps41
    go_wp2
    go_ret
    exact ⟨rfl, below1 _ _⟩
  · rw [if_pos (.inr h)]
    have h' : 0 ≤ N := by omega
    go_enter Tryd.func41, Tryd.ntmps41
    go_wp2
    go_ret
    exact ⟨rfl, below1 _ _⟩
  rw [if_neg (by omega)]
  by_cases h2 : 4096 < n
  · rw [if_pos (by rw [← HE.out]; exact h2)]
    go_enter Tryd.func41, Tryd.ntmps41
    go_wp2
    go_ret
    exact ⟨rfl, below1 _ _⟩
  rw [if_neg (by rw [← HE.out]; exact h2)]
  have hp := fun l w hl => litValid_c l N w hl
  have HP := Lib.hid hp
  clear hp
  go_enter Tryd.func41, Tryd.ntmps41
  go_wp2
  go_loopw [22] (fun i wr => ∃ k : Nat, k ≤ n ∧ i = .int .i64 k ∧ Hid (∀ j, j < k → checkRow N (L.getD j []) = 0) ∧ Two wr w.heap.size 24 (.int .i64 N) (.slice a n c) ∧ Below w.heap.size w wr) (fun i _ => n - (intOf i).toNat)
  case atStart => exact ⟨0, Nat.zero_le _, rfl, by intro j hj; omega, Two.new _ _ _ _, below1 _ _⟩
  case round =>
    obtain ⟨k, hk, rfl, hno, hv, hb⟩ := hrel
    obtain ⟨wo, rfl⟩ : ∃ wo : World, wo = wr := ⟨_, rfl⟩
    have g0 := hv.c0
    have g1 := hv.c1
    by_cases hlt : k < n
    · have hI : IntRows F wo (.slice a n c) L := Enc.below _ HR.out hb
      obtain ⟨b, o, a2, n2, c2, rfl, hcell, hrow, HE2, hm2⟩ := hI.at k hlt
      have HI := Lib.hid hrow
      clear hI hrow
      by_cases h3 : 128 < n2
      · go_wp2
        go_ret
        have e : checkRow N (L.getD k []) = 2 := by unfold checkRow; rw [if_pos (by rw [← HE2.out]; exact h3)]
        exact ⟨congrArg (fun x => Ending.returned (.int .i64 x)) (by rw [checkRows_at N L k (by rw [← HE.out]; exact hlt) hno.out (by rw [e]; decide), e]), hb⟩
      · go_wp2
        go_loop [31] (fun i => ∃ j : Nat, j ≤ n2 ∧ i = .int .i64 j ∧ Hid (∀ l ∈ (L.getD k []).take j, litOk l N = true)) (fun i => n2 - (intOf i).toNat)
        case atStart => exact ⟨0, Nat.zero_le _, rfl, by intro l hl; simp at hl⟩
        case round =>
          obtain ⟨j, hj, rfl, hno2⟩ := hrel
          by_cases hlt2 : j < n2
          · obtain ⟨b2, o2, rfl, hcell3, hr⟩ := HI.out.at j hlt2
            have HM := Lib.hid (getD_mem (L.getD k []) j (by have := HE2.out; omega) 0)
            have HS := Lib.hid (take_succ_getD (L.getD k []) j (by have := HE2.out; omega) 0)
            generalize hz : (L.getD k []).getD j 0 = z at *
            clear hz
            have hp := fun w => HP.out z w hr
            have HZ := Lib.hid hr
            clear hr
            cases hq : litOk z N
            all_goals
              simp only [hq] at hp
              have HQ := Lib.hid hq
              clear hq
              go_wp2_with (go_at_call 60; refine (hp _).mono ?_; rintro e w' ⟨rfl, rfl⟩)
            · go_ret
              have e : checkRow N (L.getD k []) = 1 := by
                unfold checkRow
                rw [if_neg (by rw [← HE2.out]; exact h3), if_neg]
                rw [List.all_eq_true]; intro hh; have := hh z HM.out; rw [HQ.out] at this; cases this
              exact ⟨congrArg (fun x => Ending.returned (.int .i64 x)) (by rw [checkRows_at N L k (by rw [← HE.out]; exact hlt) hno.out (by rw [e]; decide), e]), hb⟩
            · go_round
              case rel => exact ⟨j + 1, by omega, by go_num, by intro y hy; rw [HS.out, List.mem_append, List.mem_singleton] at hy; rcases hy with hy | rfl; exact hno2.out y hy; exact HQ.out⟩
              case measure => simp [intOf]; omega
          · go_wp2
            go_roundw
            case rel =>
              refine ⟨k + 1, by omega, by go_num, ?_, hv, hb⟩
              intro i hi
              by_cases e : i < k
              · exact hno.out i e
              · obtain rfl : i = k := by omega
                have hall := hno2.out
                rw [List.take_of_length_le (by have := HE2.out; omega)] at hall
                unfold checkRow
                rw [if_neg (by rw [← HE2.out]; exact h3), if_pos (List.all_eq_true.2 hall)]
            case measure => simp [intOf]; omega
    · go_wp2
      go_ret
      exact ⟨congrArg (fun x => Ending.returned (.int .i64 x)) (by rw [checkRows_all N L (fun j hj => hno.out j (by have := HE.out; omega))]), hb⟩
end Go.Proofs.YtafikekndefjcaaDoor
/- Lit2: Contracts of slices.IndexFunc, slices.ContainsFunc, lit.valid, lit.opposite; no condition. -/
namespace Go.Proofs.YtafikekndefjcaaDoor
set_option linter.unusedVariables false
set_option linter.unusedSimpArgs false
set_option linter.unusedSectionVars false
open Go.RowKit

theorem enters_fn {P : Program} {f : FuncId} {fn : Func} {c : Code} (hf : P.funcs[f]? = some fn) (hname : (fn.name == "runtime.NumGoroutine") = false) (hb : fn.body = some c) :
    ∀ args w, (callFunc f args).run P w = .ok (.enter f args) w := by
  intro args w
  have h1 : fn.name ≠ "runtime.NumGoroutine" := by simpa using hname
  simp [callFunc, hf, h1, hb, mark]

set_option maxHeartbeats 400000 in
theorem indexFunc_c {F : Foot} {w : World} {v : Value} {xs : List Int} (p : Int → Bool) (K : FuncId) (cb : Array Value)
    (eg : ∀ args w, (callFunc K args).run Tryd.prog w = .ok (.enter K args) w)
    (hf : ∀ y ∈ xs, ∀ W, Below w.heap.size w W → Calls Tryd.prog K (#[.int .i64 y] ++ cb) W (Gives W (.bool (p y))))
    (h : Ints F w v xs) :
    Calls Tryd.prog 78 #[v, .func (.func K) #[] cb] w fun e w' => ∃ r : Int, e = .returned (.int .i64 r) ∧ Below w.heap.size w w' ∧ (decide (0 ≤ r) = xs.any p) := by
  obtain ⟨a, n, c, rfl, hn, _, hm, hc⟩ := h.open
  unfold LenMax at hm
  have HI := Lib.hid h
  have HE := Lib.hid hn
  have HF := Lib.hid hf
  clear hn h hf hc
  go_enter Tryd.func78, Tryd.ntmps78
  go_wp2
  go_loopw [8] (fun i wr => ∃ k : Nat, k ≤ n ∧ i = .int .i64 k ∧ Hid (∀ y ∈ xs.take k, p y = false) ∧ Below w.heap.size w wr) (fun i _ => n - (intOf i).toNat)
  case atStart => exact ⟨0, Nat.zero_le _, rfl, by intro y hy; simp at hy, below0 _⟩
  case round =>
    obtain ⟨k, hk, rfl, hno, hb⟩ := hrel
    by_cases hlt : k < n
    · have hI : Ints F wr (.slice a n c) xs := Enc.below _ HI.out hb
      obtain ⟨b, o, rfl, hcell, hr⟩ := hI.at k hlt
      have HM := Lib.hid (getD_mem xs k (by have := HE.out; omega) 0)
      have HS := Lib.hid (take_succ_getD xs k (by have := HE.out; omega) 0)
      clear hI
      generalize xs.getD k 0 = y at *
      have hp := HF.out y HM.out wr hb
      have HR := Lib.hid hr
      clear hr
      cases hq : p y
      all_goals
        simp only [hq] at hp
        have HQ := Lib.hid hq
        have HP := Lib.hid hp
        clear hq hp
        go_wp2_with fail
        refine HP.out.mono ?_
        rintro e w1 ⟨rfl, hb1⟩
        clear hcell
        go_wp2
      · go_roundw
        case rel => exact ⟨k + 1, by omega, by go_num, by intro z hz; rw [HS.out, List.mem_append, List.mem_singleton] at hz; rcases hz with hz | rfl; exact hno.out z hz; exact HQ.out, hb.trans (hb1.mono hb.size)⟩
        case measure => simp [intOf]; omega
      · go_ret
        exact ⟨_, rfl, hb.trans (hb1.mono hb.size), by rw [List.any_eq_true.2 ⟨y, HM.out, HQ.out⟩]; simp⟩
    · go_wp2
      go_ret
      have hall := hno.out
      rw [List.take_of_length_le (by have := HE.out; omega)] at hall
      exact ⟨_, rfl, hb, by rw [List.any_eq_false.2 (fun y hy hb => by rw [hall y hy] at hb; cases hb)]; simp⟩

set_option maxHeartbeats 400000 in
theorem containsFunc_c {F : Foot} {w : World} {v : Value} {xs : List Int} (p : Int → Bool) (K : FuncId) (cb : Array Value)
    (eg : ∀ args w, (callFunc K args).run Tryd.prog w = .ok (.enter K args) w)
    (hf : ∀ y ∈ xs, ∀ W, Below w.heap.size w W → Calls Tryd.prog K (#[.int .i64 y] ++ cb) W (Gives W (.bool (p y))))
    (h : Ints F w v xs) :
    Calls Tryd.prog 62 #[v, .func (.func K) #[] cb] w (Gives w (.bool (xs.any p))) := by
  have hp := indexFunc_c p K cb eg hf h
  clear hf eg h
  go_enter Tryd.func62, Tryd.ntmps62
  go_wp2_with fail
  refine hp.mono ?_
  rintro e w' ⟨r, rfl, hb, hr⟩
  have HR := Lib.hid hr
  clear hr hp
  go_wp2
  go_ret
  exact ⟨congrArg (fun b => Ending.returned (.bool b)) HR.out, hb⟩

theorem Ints.range {F : Foot} {w : World} {v : Value} {xs : List Int} (h : Ints F w v xs) : ∀ y ∈ xs, I64 y := by
  obtain ⟨a, n, c, rfl, hn, _, hm, hc⟩ := h.open
  intro y hy
  obtain ⟨k, hk, rfl⟩ := List.mem_iff_getElem.1 hy
  obtain ⟨_, _, _, _, hr⟩ := hc k (by omega)
  simpa [List.getD, hk] using hr

set_option maxHeartbeats 400000 in
theorem litvalidFn_c (y n : Int) (g : Nat) (W : World) (hy : I64 y) (hc : W.cell? ⟨g, 0, none⟩ = some (.int .i64 n)) :
    Calls Tryd.prog 80 #[.int .i64 y, .pointer (some ⟨g, 0, none⟩)] W fun e w' => e = .returned (.bool (!litOk y n)) ∧ W = w' := by
  have hp := fun w => litValid_c y n w hy
  have HY := Lib.hid hy
  clear hy
  generalize litOk y n = t at *
  go_enter Tryd.func80, Tryd.ntmps80
  go_wp2_with (go_at_call 60; refine (hp _).mono ?_; rintro e w' ⟨rfl, rfl⟩)
  go_ret
  exact ⟨rfl, rfl⟩

set_option maxHeartbeats 400000 in
theorem litvalid_c {F : Foot} {w : World} {v : Value} {xs : List Int} (n : Int) (h : Ints F w v xs) :
    Calls Tryd.prog 66 #[v, .int .i64 n] w (Gives w (.bool (xs.all fun y => litOk y n))) := by
  have hmf : ∀ (fn : Fn) (first cap : Array Value) (w : World), (Instr.makeFunc fn first cap).run Tryd.prog w = .ok (.func fn first cap) w := fun _ _ _ _ => rfl
  have eg : ∀ args w, (callFunc 80 args).run Tryd.prog w = .ok (.enter 80 args) w := enters_fn Tryd.func80 (by kernel_rfl) rfl
  have hcell : (w.alloc (.cells #[.int .i64 n] 3)).cell? ⟨w.heap.size, 0, none⟩ = some (.int .i64 n) := by
    rw [World.cell?_alloc_at _ _ _ _ rfl]; rfl
  have h1 : Ints F (w.alloc (.cells #[.int .i64 n] 3)) v xs := Enc.below _ h (below1 _ _)
  have hp := containsFunc_c (w := w.alloc (.cells #[.int .i64 n] 3)) (fun y => !litOk y n) 80 #[.pointer (some ⟨w.heap.size, 0, none⟩)] eg (fun y hy W hb => by
    refine (litvalidFn_c y n w.heap.size W (Ints.range h y hy) ?_).mono fun e w' ⟨he, hw⟩ => ⟨he, hw ▸ below0 _⟩
    rw [hb.cell (p := ⟨w.heap.size, 0, none⟩) (by simp)]; exact hcell) h1
  have HE := Lib.hid (show (xs.all fun y => litOk y n) = !(xs.any fun y => !litOk y n) by rw [List.any_eq_not_all_not]; simp)
  generalize hany : (xs.any fun y => !litOk y n) = t at *
  rw [HE.out]
  clear hany hcell h1 h eg
  go_enter Tryd.func66, Tryd.ntmps66
  go_wp2_with fail
  refine hp.mono ?_
  rintro e w1 ⟨rfl, hb⟩
  go_wp2
  go_ret
  exact ⟨rfl, (below1 _ _).trans (hb.mono (by simp))⟩

def adjOpp : List Int → Bool
  | [] => false
  | [_] => false
  | x :: y :: r => decide (y = -x) || adjOpp (y :: r)
theorem adjOpp_iff (xs : List Int) : adjOpp xs = true ↔ ∃ k : Nat, k + 1 < xs.length ∧ xs.getD (k + 1) 0 = -xs.getD k 0 := by
  induction xs with
  | nil => simp [adjOpp]
  | cons x r ih =>
    cases r with
    | nil => simp [adjOpp]
    | cons y r =>
      rw [adjOpp, Bool.or_eq_true, ih, decide_eq_true_eq]
      constructor
      · rintro (h | ⟨k, h1, h2⟩)
        · exact ⟨0, by simp, by simpa using h⟩
        · exact ⟨k + 1, by simpa using h1, by simpa using h2⟩
      · rintro ⟨k, h1, h2⟩
        cases k with
        | zero => left; simpa using h2
        | succ k => right; exact ⟨k, by simpa using h1, by simpa using h2⟩

set_option maxHeartbeats 400000 in
theorem litopposite_c {F : Foot} {w : World} {v : Value} {xs : List Int} (h : Ints F w v xs) (hr : ∀ y ∈ xs, -128 ≤ y ∧ y ≤ 128) :
    Calls Tryd.prog 68 #[v] w (Gives w (.bool (adjOpp xs))) := by
  obtain ⟨a, n, c, rfl, hn, _, hm, hc⟩ := h.open
  unfold LenMax at hm
  have HE := Lib.hid hn
  have HR := Lib.hid hr
  clear h hn hr
  go_enter Tryd.func68, Tryd.ntmps68
  go_wp2
  go_loopw [3] (fun i wr => ∃ k : Nat, 1 ≤ k ∧ i = .int .i64 k ∧ Hid (k ≤ n ∨ k = 1) ∧ Hid (∀ j, j + 1 < k → j + 1 < n → xs.getD (j + 1) 0 ≠ -xs.getD j 0) ∧ ∃ q, wr = w.drewN q) (fun i _ => n + 1 - (intOf i).toNat)
  case atStart => exact ⟨1, by omega, rfl, .inr rfl, by intro j hj; omega, 0, rfl⟩
  case round =>
    obtain ⟨k, hk, rfl, hkn, hno, q, rfl⟩ := hrel
    by_cases hlt : k < n
    · obtain ⟨b, o, rfl, hcell, _⟩ := hc k hlt
      obtain ⟨b', o', he, hcell', _⟩ := hc (k - 1) (by omega)
      cases he
      have r1 := HR.out _ (getD_mem xs k (by have := HE.out; omega) 0)
      have r2 := HR.out _ (getD_mem xs (k - 1) (by have := HE.out; omega) 0)
      clear hc
      have HX : ∃ x, Hid (xs.getD k 0 = x) := ⟨_, rfl⟩
      have HY : ∃ y, Hid (xs.getD (k - 1) 0 = y) := ⟨_, rfl⟩
      obtain ⟨x, HX⟩ := HX
      obtain ⟨y, HY⟩ := HY
      rw [HX.out] at hcell r1
      rw [HY.out] at hcell' r2
      obtain ⟨r1a, r1b⟩ := r1
      obtain ⟨r2a, r2b⟩ := r2
      have hk0 : (0 : Int) ≤ k := by omega
      have hk1 : (k : Int) < n := by omega
      have hk2 : (0 : Int) ≤ (k : Int) - 1 := by omega
      have hk3 : (k : Int) - 1 < n := by omega
      have hk4 : IntKind.i64.wrap ((k : Int) - 1) = (k : Int) - 1 := IntWalk.i64_in _ (by omega)
      have hk5 : ((k : Int) - 1).toNat = k - 1 := by omega
      have hk6 : IntKind.i64.wrap (-y) = -y := IntWalk.i64_in _ (by omega)
      go_wp2
      go_quiet (fail)
      clear hk4 hk5 hk6
      by_cases he : x = -y
      · have hbe : (x == -y) = true := by simp [he]
        have HZ := Lib.hid he
        clear he
        go_wp2
        go_ret
        exact ⟨congrArg (fun b => Ending.returned (.bool b)) (by rw [eq_comm, adjOpp_iff]; exact ⟨k - 1, by have := HE.out; omega, by rw [show k - 1 + 1 = k by omega, HX.out, HY.out, HZ.out]⟩), by first | exact ⟨rfl, rfl, rfl, by simp, fun _ _ => by simp⟩ | exact below0 _⟩
      · have hbe : (x == -y) = false := by simp [he]
        have HZ := Lib.hid he
        clear he
        go_wp2
        go_roundw
        case rel => exact ⟨k + 1, by omega, by go_num, .inl (by omega), by intro j hj hj2; by_cases e : j + 1 < k; exact hno.out j e hj2; (obtain rfl : j = k - 1 := by omega); rw [show k - 1 + 1 = k by omega, HX.out, HY.out]; exact HZ.out, _, rfl⟩
        case measure => simp [intOf]; omega
    · go_wp2
      go_ret
      exact ⟨congrArg (fun b => Ending.returned (.bool b)) (by
        rw [eq_comm, Bool.eq_false_iff]; intro h; rw [adjOpp_iff] at h
        obtain ⟨j, h1, h2⟩ := h
        exact hno.out j (by have := HE.out; omega) (by have := HE.out; omega) h2), by first | exact ⟨rfl, rfl, rfl, by simp, fun _ _ => by simp⟩ | exact below0 _⟩
end Go.Proofs.YtafikekndefjcaaDoor
/- Own: Slices that a call itself makes and appends to, as lists: plain lemmas over any program; no condition. -/
namespace Go.Proofs.YtafikekndefjcaaDoor
set_option linter.unusedVariables false
set_option linter.unusedSimpArgs false
set_option linter.unusedSectionVars false
open Go.RowKit

def Fresh (B : Nat) : Foot := fun b _ fz => B ≤ b ∧ fz = (0, 0)
def Off (F : Foot) (g : Option Nat) : Foot := fun b e fz => F b e fz ∧ g ≠ some b

section
variable {P : Program}

theorem run_append_where (w : World) (base : Nat) (t ty e : TypeId) (i : TypeInfo) (z : Value) (size bytes : Nat) (ht : P.underlying t = some (.slice e)) (hi : P.info? e = some i) (hz : i.zero = some z)
    (hsize : i.size = size) (hby : i.bytes = bytes) (hzs : z.cells.size = size) (hsz : 0 < size)
    (v : Value) (n : Nat) (xs : List Value) (hown : w.ownsRow base e size v n xs)
    (a : Addr) (m c : Nat) (news : List Value) (hl : news.length = m * size) (hnews : ∀ j u, news[j]? = some u → w.cell? (a.add j) = some u) (h1 : ∀ u ∈ news, u.oneCell' = true)
    (h63 : n + m ≤ maxLen) (hbytes : (n + m) * bytes ≤ 140737488355328) (hbase : base ≤ w.heap.size) :
    ∃ v' w', (Builtin.append_ #[t, t] ty #[v, .slice (some a) m c]).run P w = .ok v' w' ∧ w'.ownsRow base e size v' (n + m) (xs ++ news) ∧ w.grownBy w' v.ownBlock ∧
      (∀ g, v'.ownBlock = some g → v.ownBlock = some g ∨ g = w.heap.size) ∧ w.heap.size ≤ w'.heap.size := by
  obtain ⟨v', w', hr, h2, h3, h4⟩ := run_append_own (P := P) w base t ty e i z size bytes ht hi hz hsize hby hzs hsz v n xs hown a m c news hl hnews h1 h63 hbytes hbase
  refine ⟨v', w', hr, h2, h3, ?_, h3.size⟩
  intro g hg
  subst hsize
  subst hby
  have hsmall : n + m ≤ 9223372036854775807 := by simp only [maxLen] at h63; omega
  rcases hown.2 with ⟨rfl, rfl⟩ | ⟨g0, cap, cur, rfl, hbg, hgg, hnc, hcm, hcs, htake⟩
  · have hb2 : base ≤ g := by
      have := h2.lt g hg
      exact this.1
    -- a nil slice: nothing lies in old blocks
    have hown2 : w.ownsRow w.heap.size e i.size (.slice none 0 0) 0 [] := World.ownsRow_nil w _ e _
    have hx : xs = [] := List.eq_nil_of_length_eq_zero (by simpa using hown.1)
    subst hx
    obtain ⟨v2, w2, hr2, h22, _, _⟩ := run_append_own (P := P) w w.heap.size t ty e i z i.size i.bytes ht hi hz rfl rfl hzs hsz _ 0 [] hown2 a m c news hl hnews h1 h63 hbytes (Nat.le_refl _)
    rw [hr] at hr2
    cases hr2
    right
    have h5 := h22.lt g hg
    rcases Nat.eq_zero_or_pos m with hm | hm
    · subst hm
      rcases h22.2 with ⟨e1, _⟩ | ⟨g', cap', cur', e1, _, hg', hn', _⟩
      · subst e1; simp [Value.ownBlock] at hg
      · have hnil := h4.2 ⟨rfl, rfl⟩
        subst hnil; simp [Value.ownBlock] at hg
    · have hr3 := run_append_nil (P := P) w t ty e i z ht hi hz a m c news hl hnews hm (by omega) (by have hb := hbytes; simp only [Nat.zero_add] at hb; omega)
      rw [hr] at hr3
      cases hr3
      simpa [Value.ownBlock] using hg.symm
  · by_cases hroom : n + m ≤ cap
    · have hfit : n * i.size + news.length ≤ cur.size := by rw [hl, hcs, ← Nat.add_mul]; exact Nat.mul_le_mul_right _ hroom
      have hr3 := run_append_room (P := P) w t ty e i ht hi g0 n cap cur hgg a m c news hl hnews h1 hroom hfit
      rw [hr] at hr3
      cases hr3
      left
      simpa [Value.ownBlock] using hg
    · have holds : ∀ j u, xs[j]? = some u → w.cell? ((⟨g0, 0, none⟩ : Addr).add j) = some u := hown.cells (g := g0) rfl
      have hr3 := run_append_grow (P := P) w t ty e i z ht hi hz ⟨g0, 0, none⟩ n cap xs hown.1 holds a m c news hl hnews (by omega) (by omega) (growslice_fits (by omega) hbytes)
      rw [hr] at hr3
      cases hr3
      right
      simpa [Value.ownBlock] using hg.symm
end

def OwnL {α : Type} (E : Enc α) (F : Foot) (w : World) (B : Nat) (t : TypeId) (v : Value) (xs : List α) : Prop :=
  ∃ raw : List (List Value), w.ownsRow B t E.size v xs.length raw.flatten ∧ raw.length = xs.length ∧ ∀ (i : Nat) (h1 : i < xs.length) (h2 : i < raw.length), E.rep (Off F v.ownBlock) w xs[i] raw[i]

theorem OwnL.nil {α : Type} (E : Enc α) (F : Foot) (w : World) (B : Nat) (t : TypeId) : OwnL E F w B t (.slice none 0 0) [] :=
  ⟨[], by simpa using World.ownsRow_nil w B t E.size, rfl, fun i h => by simp at h⟩

theorem OwnL.lt {α : Type} {E : Enc α} {F : Foot} {w : World} {B : Nat} {t : TypeId} {v : Value} {xs : List α} (h : OwnL E F w B t v xs) {g : Nat} (hg : v.ownBlock = some g) : B ≤ g ∧ g < w.heap.size := by
  obtain ⟨raw, h1, _⟩ := h
  exact h1.lt g hg

theorem OwnL.grown {α : Type} {E : Enc α} {F : Foot} {w w' : World} {B : Nat} {t : TypeId} {v : Value} {xs : List α} (h : OwnL E F w B t v xs) {row : Option Nat} (hg : w.grownBy w' row) (hne : v.ownBlock = none ∨ v.ownBlock ≠ row)
    (hF : ∀ b e fz, b < w.heap.size → F b e fz → v.ownBlock ≠ some b → row ≠ some b) : OwnL E F w' B t v xs := by
  obtain ⟨raw, h1, h2, h3⟩ := h
  refine ⟨raw, h1.kept hg hne, h2, fun i hi hi2 => ?_⟩
  have h4 := E.weak (h3 i hi hi2) (F' := fun b e fz => (Off F v.ownBlock b e fz) ∧ row ≠ some b ∧ b < w.heap.size) (fun b e fz hl hf => ⟨hf, hF b e fz hl hf.1 hf.2, hl⟩)
  have h5 := E.mono h4 (w' := w') (fun b c e fz hh hf => by rw [hg.block b hf.2.2 (fun e => hf.2.1 e.symm)]; exact hh)
  exact E.weak h5 (fun b e fz _ hf => hf.1)

theorem OwnL.below {α : Type} {E : Enc α} {F : Foot} {w w' : World} {B : Nat} {t : TypeId} {v : Value} {xs : List α} (h : OwnL E F w B t v xs) (hb : Below w.heap.size w w') : OwnL E F w' B t v xs :=
  h.grown (row := none) ⟨hb.os, hb.tape, hb.output, hb.size, fun k hk _ => hb.block k hk⟩ (by cases v.ownBlock <;> simp) (fun _ _ _ _ _ _ => by simp)

theorem grownBy_of_alloc {w w' : World} {o : Obj} {row : Option Nat} (hg : (w.alloc o).grownBy w' row) : w.grownBy w' row :=
  ⟨hg.os, hg.tape, hg.output, by have := hg.size; simp at this; omega, fun k hk hne => by rw [hg.block k (by simp; omega) hne, Below.heap_alloc _ _ _ hk]⟩

theorem Enc.grown {α : Type} (E : Enc α) {F : Foot} {w w' : World} {x : α} {cs : List Value} {row : Option Nat} (h : E.rep (Off F row) w x cs) (hg : w.grownBy w' row) : E.rep (Off F row) w' x cs := by
  have h1 := E.lows h
  have h2 := E.mono h1 (w' := w') (fun b c e fz hh hf => by rw [hg.block b hf.2 (fun e => hf.1.2 e.symm)]; exact hh)
  exact E.weak h2 (fun b e fz _ hf => hf.1)

def SliceOf (v : Value) (n : Nat) : Prop := ∃ g c, v = .slice (some ⟨g, 0, none⟩) n c

theorem wpList_push {α : Type} {P : Program} {ops : Array Oper} {rest : List Oper} {o : Oper} {a : Act} {Q : Exit → Act → World → Prop} (w : World) (hgd : o.guard = none) (s x : Operand) (t e : TypeId)
    (ho : o.op = .call { callee := .builtin .append, args := #[s, x], argTypes := #[t, t] })
    (E : Enc α) (i : TypeInfo) (z : Value) (bytes : Nat) (ht : P.underlying t = some (.slice e)) (hi : P.info? e = some i) (hz : i.zero = some z)
    (hsize : i.size = E.size) (hby : i.bytes = bytes) (hzs : z.cells.size = E.size) (hsz : 0 < E.size)
    {F : Foot} {B : Nat} {v : Value} {xs : List α} (hs : a.eval s = v) (hown : OwnL E F w B e v xs)
    (y : α) (cs : List Value) (hy : E.rep (Off F v.ownBlock) w y cs) (h1 : ∀ u ∈ cs, u.oneCell' = true)
    (hx : a.eval x = .slice (some ⟨w.heap.size, 0, none⟩) 1 1)
    (hbytes : (xs.length + 1) * bytes ≤ 140737488355328) (hb8 : 0 < bytes) (hbase : B ≤ w.heap.size)
    (h : ∀ v' w', OwnL E F w' B e v' (xs ++ [y]) → w.grownBy w' v.ownBlock → SliceOf v' (xs.length + 1) → wpList P ops Q rest (a.put o.dst v') w') :
    wpList P ops Q (o :: rest) a (w.alloc (.cells cs.toArray e)) := by
  obtain ⟨raw, g1, g2, g3⟩ := hown
  have hcl := E.len hy
  have hlen63 : xs.length + 1 ≤ maxLen := by
    have : (xs.length + 1) * 1 ≤ (xs.length + 1) * bytes := Nat.mul_le_mul_left _ hb8
    simp only [maxLen]; omega
  obtain ⟨v', w', hr, h2, h3, h4, h5⟩ := run_append_where (P := P) (w.alloc (.cells cs.toArray e)) B t o.type e i z E.size bytes ht hi hz hsize hby hzs hsz v xs.length raw.flatten (g1.alloc _)
    ⟨w.heap.size, 0, none⟩ 1 1 cs (by rw [hcl]; simp) (fun j u hu => by
      rw [Addr.add_lit, World.cell?_alloc_at _ _ _ _ rfl]
      simpa using hu) h1 hlen63 hbytes (by simp; omega)
  refine wpList_plain hgd fun K hK => ?_
  unfold Oper.wp execOp
  simp only [ho, resolve, invoke, builtin, Sem.run_bind, Sem.run_pure, Result.andThen_ok, List.map_toArray, List.map_cons, List.map_nil, hs, hx, hr]
  have hgw : w.grownBy w' v.ownBlock := grownBy_of_alloc h3
  refine hK _ _ (h v' w' ⟨raw ++ [cs], ?_, by simp [g2], ?_⟩ hgw ?_)
  · simpa using h2
  · intro k hk1 hk2
    have hfr : ∀ b, b < w.heap.size → v.ownBlock ≠ some b → v'.ownBlock ≠ some b := fun b hb hne e => by
      rcases h4 b e with h | h
      · exact hne h
      · simp at h; omega
    have fin : ∀ (u : α) (us : List Value), E.rep (Off F v.ownBlock) w u us → E.rep (Off F v'.ownBlock) w' u us := fun u us hu => by
      have := E.lows hu
      have := E.mono this (w' := w') (fun b c e fz hh hf => by rw [hgw.block b hf.2 (fun e => hf.1.2 e.symm)]; exact hh)
      exact E.weak this (fun b e fz _ hf => ⟨hf.1.1, hfr b hf.2 hf.1.2⟩)
    by_cases hk : k < xs.length
    · rw [List.getElem_append_left hk, List.getElem_append_left (by omega)]
      exact fin _ _ (g3 k hk (by omega))
    · have hk' : k = xs.length := by simp at hk1; omega
      subst hk'
      have e1 : (xs ++ [y])[xs.length] = y := by simp
      have e2 : (raw ++ [cs])[xs.length]'hk2 = cs := by simp [← g2]
      rw [e1, e2]
      exact fin _ _ hy
  · rcases h2.2 with ⟨_, e0⟩ | ⟨g, cap, cur, e0, _⟩
    · omega
    · exact ⟨g, cap, e0⟩

theorem OwnL.reads {α : Type} {E : Enc α} {F : Foot} {w : World} {B : Nat} {t : TypeId} {v : Value} {xs : List α} (h : OwnL E F w B t v xs) (hl : xs.length * E.bytes ≤ 140737488355328) (F' : Foot)
    (h1 : ∀ b e fz, F b e fz → F' b e fz) (h2 : ∀ b e, B ≤ b → F' b e (0, 0)) : (eList E).rep F' w xs [v] := by
  obtain ⟨raw, g1, g2, g3⟩ := h
  rcases g1.2 with ⟨rfl, h0⟩ | ⟨g, cap, cur, rfl, hb, hg, hn, hm, hs, ht⟩
  · exact ⟨none, 0, 0, rfl, h0.symm, Nat.le_refl _, by simp, fun _ => rfl, fun i hi => by omega⟩
  · refine ⟨some ⟨g, 0, none⟩, xs.length, cap, rfl, rfl, hn, hl, fun h => (by cases h), fun i hi => ⟨g, 0, raw[i]'(by omega), rfl, E.len (g3 i hi (by omega)), fun j hj => ?_, E.weak (g3 i hi (by omega)) (fun b e fz _ hf => h1 b e fz hf.1)⟩⟩
    refine ⟨cur, t, (0, 0), hg, ?_, h2 g t hb⟩
    have hall : ∀ r ∈ raw, r.length = E.size := fun r hr => by
      obtain ⟨k, hk, rfl⟩ := List.mem_iff_getElem.1 hr
      exact E.len (g3 k (by omega) hk)
    have hj' : j < E.size := by rw [E.len (g3 i hi (by omega))] at hj; exact hj
    have e1 : (raw.flatten)[i * E.size + j]? = some ((raw[i]'(by omega))[j]) := flat_get raw E.size hall i (by omega) j hj hj'
    rw [← ht, List.getElem?_take] at e1
    split at e1
    · simpa using e1
    · cases e1
where
  flat_get : ∀ (raw : List (List Value)) (s : Nat), (∀ r ∈ raw, r.length = s) → ∀ (i : Nat) (hi : i < raw.length) (j : Nat) (hj : j < raw[i].length), j < s → raw.flatten[i * s + j]? = some (raw[i][j])
    | [], _, _, i, hi, _, _, _ => by simp at hi
    | r :: rs, s, h, 0, _, j, hj, hs => by
      simp only [Nat.zero_mul, Nat.zero_add, List.flatten_cons, List.getElem_cons_zero] at hj ⊢
      rw [List.getElem?_append_left hj, List.getElem?_eq_getElem hj]
    | r :: rs, s, h, i + 1, hi, j, hj, hs => by
      have hr : r.length = s := h r (by simp)
      simp only [List.flatten_cons, List.getElem_cons_succ] at hj ⊢
      rw [List.getElem?_append_right (by rw [hr, Nat.add_mul]; omega)]
      have := flat_get rs s (fun r hr => h r (by simp [hr])) i (by simpa using hi) j hj hs
      rw [← this]
      congr 1
      rw [hr, Nat.add_mul]; omega

theorem World.eRep_int {F : Foot} {w : World} {x : Int} (h : I64 x) : eInt.rep F w x [.int .i64 x] := ⟨rfl, h⟩
end Go.Proofs.YtafikekndefjcaaDoor
/- Rest: Contracts of censusref16.has, Left, Rest and parts.rest; no condition. -/
namespace Go.Proofs.YtafikekndefjcaaDoor
set_option linter.unusedVariables false
set_option linter.unusedSimpArgs false
set_option linter.unusedSectionVars false
open Go.RowKit

theorem infoInt : (Tryd.prog.info? 3).map (fun i => (i.zero, i.size, i.bytes)) = some (some (.int .i64 0), 1, 8) := by kernel_rfl

theorem ints_nil (F : Foot) (w : World) : Ints F w (.slice none 0 0) [] := ⟨none, 0, 0, rfl, rfl, Nat.le_refl _, by simp, fun _ => rfl, fun i hi => by simp at hi⟩
def GivesInts (w : World) (r : List Int) (e : Ending) (w' : World) : Prop := ∃ v, e = .returned v ∧ Ints (Fresh w.heap.size) w' v r ∧ Below w.heap.size w w'

theorem OwnL.ints {F : Foot} {w : World} {B : Nat} {t : TypeId} {v : Value} {xs : List Int} (h : OwnL eInt F w B t v xs) (hl : xs.length ≤ LenMax) : Ints (Fresh B) w v xs := by
  obtain ⟨raw, g1, g2, g3⟩ := h
  exact OwnL.reads (F := Fresh B) ⟨raw, g1, g2, fun i h1 h2 => g3 i h1 h2⟩ (by unfold LenMax at hl; simp only [eInt]; omega) (Fresh B) (fun _ _ _ h => h) (fun b e h => ⟨h, rfl⟩)

theorem oneInt (y : Int) : ∀ u ∈ [Value.int IntKind.i64 y], u.oneCell' = true := by intro u hu; simp at hu; subst hu; rfl


def leftL (c t : List Int) : Bool := c.all fun l => !decide (l ∈ t)
def restL (c t : List Int) : List Int := c.filter fun l => decide (-l ∉ t)

theorem restL_snoc (c t : List Int) (l : Int) : restL (c ++ [l]) t = if -l ∈ t then restL c t else restL c t ++ [l] := by
  unfold restL
  rw [List.filter_append]
  by_cases h : -l ∈ t <;> simp [h]
theorem restL_len (c t : List Int) : (restL c t).length ≤ c.length := List.length_filter_le _ _



end Go.Proofs.YtafikekndefjcaaDoor
/- Clone: Contracts of slices.Clone, slices.Compact at ints; appending a slice of ints to one of the call's own; no condition. -/
namespace Go.Proofs.YtafikekndefjcaaDoor
set_option linter.unusedVariables false
set_option linter.unusedSimpArgs false
set_option linter.unusedSectionVars false
open Go.RowKit

theorem flat_ints (xs : List Int) : (xs.map fun y => [Value.int IntKind.i64 y]).flatten = xs.map (Value.int .i64) := by
  induction xs with
  | nil => rfl
  | cons x r ih => simp [ih]

theorem OwnL.int_iff {F : Foot} {w : World} {B : Nat} {t : TypeId} {v : Value} {xs : List Int} :
    OwnL eInt F w B t v xs ↔ w.ownsRow B t 1 v xs.length (xs.map (Value.int .i64)) ∧ ∀ y ∈ xs, I64 y := by
  constructor
  · rintro ⟨raw, g1, g2, g3⟩
    have e : raw = xs.map fun y => [Value.int IntKind.i64 y] := by
      apply List.ext_getElem (by simp [g2])
      intro i h1 h2
      have := (g3 i (by omega) h1).1
      rw [this]; simp
    subst e
    rw [flat_ints] at g1
    refine ⟨g1, fun y hy => ?_⟩
    obtain ⟨k, hk, rfl⟩ := List.mem_iff_getElem.1 hy
    exact (g3 k hk (by simpa using hk)).2
  · rintro ⟨h1, h2⟩
    refine ⟨xs.map fun y => [Value.int IntKind.i64 y], by rw [flat_ints]; exact h1, by simp, fun i h3 h4 => ⟨by simp, h2 _ (List.getElem_mem h3)⟩⟩

theorem Ints.nilcap {F : Foot} {w : World} {a : Option Addr} {n c : Nat} {xs : List Int} (h : Ints F w (.slice a n c) xs) : a = none → n = 0 ∧ c = 0 := by
  obtain ⟨a', n', c', h1, h2, h3, h4, h0, h5⟩ := h
  simp only [List.cons.injEq, and_true, Value.slice.injEq] at h1
  obtain ⟨rfl, rfl, rfl⟩ := h1
  intro e
  have := h0 e
  omega

theorem wpList_pushInts {P : Program} {ops : Array Oper} {rest : List Oper} {o : Oper} {a : Act} {Q : Exit → Act → World → Prop} (w : World) (hgd : o.guard = none) (s x : Operand) (t e : TypeId)
    (ho : o.op = .call { callee := .builtin .append, args := #[s, x], argTypes := #[t, t] })
    (i : TypeInfo) (ht : P.underlying t = some (.slice e)) (hi : P.info? e = some i) (hz : i.zero = some (.int .i64 0)) (hsize : i.size = 1) (hby : i.bytes = 8)
    {F G : Foot} {B : Nat} {v : Value} {xs ys : List Int} (hs : a.eval s = v) (hown : OwnL eInt F w B e v xs)
    (b : Option Addr) (m c : Nat) (hy : Ints G w (.slice b m c) ys) (hx : a.eval x = .slice b m c)
    (hbytes : (xs.length + m) * 8 ≤ 140737488355328) (hbase : B ≤ w.heap.size)
    (h : ∀ v' w', OwnL eInt F w' B e v' (xs ++ ys) → w.grownBy w' v.ownBlock → wpList P ops Q rest (a.put o.dst v') w') :
    wpList P ops Q (o :: rest) a w := by
  obtain ⟨g1, g2⟩ := OwnL.int_iff.1 hown
  obtain ⟨a', n', c', he, hn, _, _, hc⟩ := hy.open
  cases he
  cases b with
  | none =>
    obtain ⟨rfl, rfl⟩ := hy.nilcap rfl
    have : ys = [] := List.eq_nil_of_length_eq_zero hn.symm
    subst this
    refine wpList_append_own_none hgd s x t ho B e i 1 ht hi v xs.length _ hs g1 hx (h v w (by simpa using hown) (World.grownBy.refl _ _))
  | some ad =>
    have hlen63 : xs.length + m ≤ maxLen := by simp only [maxLen]; omega
    have hys : ∀ y ∈ ys, I64 y := Ints.range hy
    obtain ⟨v', w', hr, h2, h3, h4, h5⟩ := run_append_where (P := P) w B t o.type e i (.int .i64 0) 1 8 ht hi hz hsize hby rfl (by decide) v xs.length _ g1 ad m c (ys.map (Value.int .i64)) (by simp [hn]) (fun j u hu => by
      have hj : j < m := by
        have := (List.getElem?_eq_some_iff.1 hu).1
        simp at this; omega
      obtain ⟨b2, o2, e1, h6, _⟩ := hc j hj
      cases e1
      rw [Addr.add_lit, h6]
      rw [List.getElem?_map] at hu
      have e2 : ys[j]? = some (ys.getD j 0) := by simp [List.getD, show j < ys.length by omega]
      rw [e2] at hu
      simpa using hu) (ints_oneCell _ _) hlen63 hbytes hbase
    refine wpList_plain hgd fun K hK => ?_
    unfold Oper.wp execOp
    simp only [ho, resolve, invoke, builtin, Sem.run_bind, Sem.run_pure, Result.andThen_ok, List.map_toArray, List.map_cons, List.map_nil, hs, hx, hr]
    refine hK _ _ (h v' w' (OwnL.int_iff.2 ⟨?_, ?_⟩) h3)
    · simpa [hn] using h2
    · intro y hy'
      rcases List.mem_append.1 hy' with h | h
      · exact g2 y h
      · exact hys y h

def GivesOwn (w : World) (r : List Int) (e : Ending) (w' : World) : Prop := ∃ v, e = .returned v ∧ OwnL eInt (Fresh 0) w' w.heap.size 3 v r ∧ Below w.heap.size w w'

set_option maxHeartbeats 1000000 in
theorem clone_c {F : Foot} {w : World} {v : Value} {xs : List Int} (h : Ints F w v xs) :
    Calls Tryd.prog 81 #[v] w (GivesOwn w xs) := by
  obtain ⟨i0, hi, hz0, hz1, hz2⟩ := info_parts infoInt
  have hnil := fun (W : World) a n c => Lib.run_eql_slice_nil (P := Tryd.prog) W 28 3 a n c 0 0 Tryd.underlying28
  obtain ⟨a, n, c, rfl, hn, hnc, hm, _⟩ := h.open
  unfold LenMax at hm
  have hz := h.nilcap
  cases a with
  | none =>
    obtain ⟨rfl, rfl⟩ := hz rfl
    have : xs = [] := List.eq_nil_of_length_eq_zero hn.symm
    subst this
    clear h hn hm hz
    go_enter Tryd.func81, Tryd.ntmps81
    go_wp2
    go_ret
    exact ⟨_, rfl, OwnL.nil _ _ _ _ _, below0 _⟩
  | some ad =>
    have h1 : Ints F (w.alloc (.cells #[] 3)) (.slice (some ad) n c) xs := Enc.below _ h (below1 _ _)
    have hown : OwnL eInt (Fresh 0) (w.alloc (.cells #[] 3)) w.heap.size 3 (.slice (some ⟨w.heap.size, 0, none⟩) 0 0) [] := OwnL.int_iff.2 ⟨⟨by simp, .inr ⟨w.heap.size, 0, #[], rfl, Nat.le_refl _, heap_alloc_new w _, Nat.le_refl _, by simp [maxLen], by simp, by simp⟩⟩, by simp⟩
    have H1 := Lib.hid h1
    have HO := Lib.hid hown
    clear h h1 hown hz hn
    go_enter Tryd.func81, Tryd.ntmps81
    go_wp2_with (at_builtin; refine wpList_pushInts _ rfl _ _ 28 3 rfl i0 Tryd.underlying28 hi hz0 hz1 hz2 rfl HO.out _ _ _ H1.out rfl (by simp; omega) (by simp) ?_)
    intro v' w1 hown1 hgrow1
    have hb1 : Below w.heap.size w w1 := (below1 w _).grown hgrow1 (by simp) (fun k hk => by simp [Value.ownBlock] at hk; omega)
    go_wp2
    go_ret
    exact ⟨_, rfl, by simpa using hown1, hb1⟩
end Go.Proofs.YtafikekndefjcaaDoor
/- Sort: Contract of slices.SortFunc at literals, through the library's; lit.order, lit.Term; no condition. -/
namespace Go.Proofs.YtafikekndefjcaaDoor
set_option linter.unusedVariables false
set_option linter.unusedSimpArgs false
set_option linter.unusedSectionVars false
open Go.RowKit Go.Shelf Go.Sort

def sortL_ren : Go.Shelf.Ren := ⟨fun | 6 => 82 | 15 => 70 | 14 => 96 | 28 => 94 | 29 => 95 | 20 => 102 | 21 => 103 | 22 => 104 | 23 => 105 | 24 => 106 | 25 => 107 | 26 => 108 | 27 => 109 | 46 => 111 | 47 => 98 | 48 => 99 | 49 => 112 | 50 => 113 | 57 => 114 | n => n, fun | 22 => 28 | 24 => 3 | 25 => 126 | 3 => 3 | 39 => 42 | 0 => 0 | 53 => 135 | 55 => 41 | 4 => 4 | 46 => 129 | 45 => 128 | 50 => 60 | 5 => 5 | 9 => 9 | 66 => 138 | 70 => 142 | 76 => 149 | 77 => 150 | n => n, fun | n => n⟩
theorem sortL : Go.Proofs.SlLaysF.n6 Tryd.prog sortL_ren := {
  mixed := by kernel_rfl,
  f6 := ⟨Tryd.f82.name, by decide, Tryd.func82.trans (congrArg some (by kernel_rfl))⟩,
  f14 := ⟨Tryd.f96.name, by decide, Tryd.func96.trans (congrArg some (by kernel_rfl))⟩,
  f15 := Tryd.func70.trans (congrArg some (by kernel_rfl)),
  f20 := ⟨Tryd.f102.name, by decide, Tryd.func102.trans (congrArg some (by kernel_rfl))⟩,
  f21 := ⟨Tryd.f103.name, by decide, Tryd.func103.trans (congrArg some (by kernel_rfl))⟩,
  f22 := ⟨Tryd.f104.name, by decide, Tryd.func104.trans (congrArg some (by kernel_rfl))⟩,
  f23 := ⟨Tryd.f105.name, by decide, Tryd.func105.trans (congrArg some (by kernel_rfl))⟩,
  f24 := ⟨Tryd.f106.name, by decide, Tryd.func106.trans (congrArg some (by kernel_rfl))⟩,
  f25 := ⟨Tryd.f107.name, by decide, Tryd.func107.trans (congrArg some (by kernel_rfl))⟩,
  f26 := ⟨Tryd.f108.name, by decide, Tryd.func108.trans (congrArg some (by kernel_rfl))⟩,
  f27 := ⟨Tryd.f109.name, by decide, Tryd.func109.trans (congrArg some (by kernel_rfl))⟩,
  f28 := Tryd.func94.trans (congrArg some (by kernel_rfl)),
  f29 := Tryd.func95.trans (congrArg some (by kernel_rfl)),
  f46 := ⟨Tryd.f111.name, by decide, Tryd.func111.trans (congrArg some (by kernel_rfl))⟩,
  f47 := Tryd.func98.trans (congrArg some (by kernel_rfl)),
  f48 := Tryd.func99.trans (congrArg some (by kernel_rfl)),
  f49 := ⟨Tryd.f112.name, by decide, Tryd.func112.trans (congrArg some (by kernel_rfl))⟩,
  f50 := ⟨Tryd.f113.name, by decide, Tryd.func113.trans (congrArg some (by kernel_rfl))⟩,
  f57 := ⟨Tryd.f114.name, by decide, Tryd.func114.trans (congrArg some (by kernel_rfl))⟩,
  t0 := Tryd.underlying0,
  a0 := Tryd.isAgg0,
  z0 := Tryd.sizeOf0,
  v0 := Tryd.zeroValue0,
  t3 := Tryd.underlying3,
  a3 := Tryd.isAgg3,
  z3 := Tryd.sizeOf3,
  v3 := Tryd.zeroValue3,
  t4 := Tryd.underlying4,
  a4 := Tryd.isAgg4,
  z4 := Tryd.sizeOf4,
  v4 := Tryd.zeroValue4,
  t5 := Tryd.underlying5,
  a5 := Tryd.isAgg5,
  z5 := Tryd.sizeOf5,
  v5 := Tryd.zeroValue5,
  t9 := Tryd.underlying9,
  a9 := Tryd.isAgg9,
  z9 := Tryd.sizeOf9,
  v9 := Tryd.zeroValue9,
  t22 := Tryd.underlying28,
  a22 := Tryd.isAgg28,
  z22 := Tryd.sizeOf28,
  v22 := Tryd.zeroValue28,
  a24 := Tryd.isAgg3,
  z24 := Tryd.sizeOf3,
  t25 := Tryd.underlying126,
  a25 := Tryd.isAgg126,
  z25 := Tryd.sizeOf126,
  v25 := Tryd.zeroValue126,
  t39 := Tryd.underlying42,
  a39 := Tryd.isAgg42,
  z39 := Tryd.sizeOf42,
  v39 := Tryd.zeroValue42,
  t45 := Tryd.underlying128,
  a45 := Tryd.isAgg128,
  z45 := Tryd.sizeOf128,
  v45 := Tryd.zeroValue128,
  t46 := Tryd.underlying129,
  a46 := Tryd.isAgg129,
  z46 := Tryd.sizeOf129,
  v46 := Tryd.zeroValue129,
  t50 := Tryd.underlying60,
  a50 := Tryd.isAgg60,
  z50 := Tryd.sizeOf60,
  v50 := Tryd.zeroValue60,
  t53 := Tryd.underlying135,
  a53 := Tryd.isAgg135,
  z53 := Tryd.sizeOf135,
  v53 := Tryd.zeroValue135,
  t55 := Tryd.underlying41,
  a55 := Tryd.isAgg41,
  z55 := Tryd.sizeOf41,
  v55 := Tryd.zeroValue41,
  t66 := Tryd.underlying138,
  a66 := Tryd.isAgg138,
  z66 := Tryd.sizeOf138,
  v66 := Tryd.zeroValue138,
  t70 := Tryd.underlying142,
  a70 := Tryd.isAgg142,
  z70 := Tryd.sizeOf142,
  v70 := Tryd.zeroValue142,
  t76 := Tryd.underlying149,
  a76 := Tryd.isAgg149,
  z76 := Tryd.sizeOf149,
  v76 := Tryd.zeroValue149,
  t77 := Tryd.underlying150,
  a77 := Tryd.isAgg150,
  z77 := Tryd.sizeOf150,
  v77 := Tryd.zeroValue150 }


abbrev Small := { x : Int // -128 ≤ x ∧ x ≤ 128 }
instance : Inhabited Small := ⟨⟨0, by omega⟩⟩
def encS (x : Small) : Value := .int .i64 x.1
def cmpS (x y : Small) : Int := cmpLit x.1 y.1
def litLe (x y : Int) : Bool := !decide (cmpLit y x < 0)
def sortLits (xs : List Int) : List Int := xs.mergeSort litLe

theorem cmpLit_lt (x y : Int) : cmpLit x y < 0 ↔ litVar x < litVar y ∨ (litVar x = litVar y ∧ x < y) := by
  unfold cmpLit; split <;> omega

theorem ltS (x y : Small) : ltOf cmpS x y = decide (litVar x.1 < litVar y.1 ∨ (litVar x.1 = litVar y.1 ∧ x.1 < y.1)) := by
  show decide (cmpLit x.1 y.1 < 0) = _
  rw [Bool.eq_iff_iff, decide_eq_true_iff, decide_eq_true_iff]
  exact cmpLit_lt _ _
theorem swoS : SWO (ltOf cmpS) where
  irrefl x := by rw [ltS]; simp
  trans x y z h1 h2 := by rw [ltS, decide_eq_true_iff] at *; omega
  ntrans x y z h1 h2 := by rw [ltS, decide_eq_false_iff_not] at *; omega
theorem totS (x y : Small) (h1 : ltOf cmpS x y = false) (h2 : ltOf cmpS y x = false) : x = y := by
  rw [ltS, decide_eq_false_iff_not] at h1 h2; apply Subtype.ext; omega

theorem smalls (xs : List Int) (h : ∀ y ∈ xs, -128 ≤ y ∧ y ≤ 128) : ∃ ys : List Small, ys.map Subtype.val = xs := by
  induction xs with
  | nil => exact ⟨[], rfl⟩
  | cons x r ih =>
    obtain ⟨ys, hy⟩ := ih (fun y hy => h y (by simp [hy]))
    exact ⟨⟨x, h x (by simp)⟩ :: ys, by simp [hy]⟩

theorem sort_smalls (ys : List Small) : ((ys.mergeSort fun x y => !(ltOf cmpS) y x).map Subtype.val) = sortLits (ys.map Subtype.val) := by
  unfold sortLits
  rw [List.map_mergeSort (s := litLe)]
  intro a _ b _
  rfl

set_option maxHeartbeats 400000 in
theorem orderFn_c (x y : Int) (W : World) (hx : -128 ≤ x ∧ x ≤ 128) (hy : -128 ≤ y ∧ y ≤ 128) :
    Calls Tryd.prog 83 #[.int .i64 x, .int .i64 y] W fun e w' => e = .returned (.int .i64 (cmpLit x y)) ∧ W = w' := by
  have hp := fun w => litCompare_c x y w hx.1 hx.2 hy.1 hy.2
  generalize cmpLit x y = t at *
  clear hx hy
  go_enter Tryd.func83, Tryd.ntmps83
  go_wp2_with (go_at_call 84; refine (hp _).mono ?_; rintro e w' ⟨rfl, rfl⟩)
  go_ret
  exact ⟨rfl, rfl⟩

theorem cmpLays (blk off size : Nat) (w : World) : CmpLays1 Tryd.prog 83 #[] encS cmpS blk off size w := fun m os dk _ x y =>
  (orderFn_c x.1 y.1 _ x.2 y.2).mono fun e w' ⟨he, hw⟩ => ⟨he, 0, #[], by rw [grow_empty]; exact hw.symm⟩

theorem grownBy_sort {w : World} {g q : Nat} {d : Array Small} {os : Array Obj} : w.grownBy (grow (putRow encS (Sort.ahead w q) g 0 d) os) (some g) := by
  refine ⟨rfl, rfl, rfl, by simp [grow, putRow, mapBlock, Sort.ahead], fun k hk hne => ?_⟩
  have hk' : k < (putRow encS (Sort.ahead w q) g 0 d).heap.size := by simpa [putRow, mapBlock, Sort.ahead] using hk
  show ((putRow encS (Sort.ahead w q) g 0 d).heap ++ os)[k]? = _
  rw [Array.getElem?_append_left hk']
  simp [putRow, mapBlock, Sort.ahead, Array.getElem?_modify, show g ≠ k by intro e; subst e; exact hne rfl]

theorem grownBy_grow (w : World) (os : Array Obj) : w.grownBy (grow w os) none :=
  ⟨rfl, rfl, rfl, by simp [grow], fun k hk _ => by show (w.heap ++ os)[k]? = _; rw [Array.getElem?_append_left hk]⟩

theorem sortLits_c {F : Foot} {w : World} {B : Nat} {v : Value} {xs : List Int} (h : OwnL eInt F w B 3 v xs) (hr : ∀ y ∈ xs, -128 ≤ y ∧ y ≤ 128) (hl : xs.length ≤ LenMax) :
    Calls Tryd.prog 82 #[v, .func (.func 83) #[] #[]] w fun e w' => e = .returned (.tuple #[]) ∧ OwnL eInt F w' B 3 v (sortLits xs) ∧ w.grownBy w' v.ownBlock := by
  obtain ⟨g1, g2⟩ := OwnL.int_iff.1 h
  by_cases h0 : xs = []
  · subst h0
    have hv : ∃ a c, v = .slice a 0 c := by
      rcases g1.2 with ⟨rfl, _⟩ | ⟨g, cap, cur, rfl, _⟩
      · exact ⟨_, _, rfl⟩
      · exact ⟨_, _, rfl⟩
    obtain ⟨a, c, rfl⟩ := hv
    have hS := AnyF.slices_SortFunc_none (P := Tryd.prog) (ρ := sortL_ren) { sortL with } a c (.func (.func 83) #[] #[]) w
    change Calls Tryd.prog 82 _ _ _ at hS
    exact hS.mono fun e w' ⟨he, hw⟩ => ⟨he, by subst hw; simpa [sortLits] using h, by subst hw; exact World.grownBy.refl _ _⟩
  · have hv : v ≠ .slice none 0 0 := by
      intro e; subst e
      rcases g1.2 with ⟨_, e0⟩ | ⟨g, cap, cur, e0, _⟩
      · exact h0 (List.eq_nil_of_length_eq_zero e0)
      · cases e0
    obtain ⟨ys, rfl⟩ := smalls xs hr
    have e1 : (ys.map Subtype.val).map (Value.int .i64) = ys.map encS := by rw [List.map_map]; rfl
    rw [e1, List.length_map] at g1
    obtain ⟨g, cap, rfl, hb, hlt, hnc, hcm, hlen, hH⟩ := Lib.holds_of_ownsRow g1 hv
    have eg : ∀ args w, (callFunc 83 args).run Tryd.prog w = .ok (.enter 83 args) w := enters_fn Tryd.func83 (by kernel_rfl) rfl
    have hS := Any.slices_SortFunc_total sortL encS (fun _ => rfl) cmpS swoS 83 #[] g 0 cap ys.toArray w eg (cmpLays _ _ _ _) hH hlt (by simp at hl ⊢; unfold LenMax at hl; omega) totS
    change Calls Tryd.prog 82 _ _ _ at hS
    rw [List.size_toArray] at hS
    refine hS.mono fun e w' ⟨he, q, os, hw⟩ => ⟨he, ?_, ?_⟩
    · subst hw
      rw [OwnL.int_iff]
      have hp : (ys.mergeSort fun x y => !(ltOf cmpS) y x).length = ys.length := List.length_mergeSort _
      have h5 := Lib.ownsRow_putRow (q := q) (k := ys.length) g1 hp (Nat.le_refl _)
      rw [List.take_of_length_le (by omega)] at h5
      have h6 := h5.kept (grownBy_grow _ os) (.inr (by simp [Value.ownBlock]))
      refine ⟨?_, ?_⟩
      · rw [← sort_smalls, List.map_map, List.length_map, hp]
        exact h6
      · intro y hy
        unfold sortLits at hy
        rw [List.mem_mergeSort] at hy
        exact g2 y hy
    · subst hw
      exact grownBy_sort
end Go.Proofs.YtafikekndefjcaaDoor
/- Term: Contracts of slices.Compact at ints, lit.order, lit.Term; no condition. -/
namespace Go.Proofs.YtafikekndefjcaaDoor
set_option linter.unusedVariables false
set_option linter.unusedSimpArgs false
set_option linter.unusedSectionVars false
open Go.RowKit Go.Shelf Go.Sort

def compactL_ren : Go.Shelf.Ren := ⟨fun | 20 => 85 | n => n, fun | 22 => 28 | 3 => 3 | 4 => 4 | 0 => 0 | n => n, fun | n => n⟩
theorem compactL : Go.Proofs.Lays2.n20 Tryd.prog compactL_ren := {
  mixed := by kernel_rfl,
  f20 := Tryd.func85.trans (congrArg some (by kernel_rfl)),
  t0 := Tryd.underlying0,
  a0 := Tryd.isAgg0,
  z0 := Tryd.sizeOf0,
  v0 := Tryd.zeroValue0,
  t3 := Tryd.underlying3,
  a3 := Tryd.isAgg3,
  z3 := Tryd.sizeOf3,
  v3 := Tryd.zeroValue3,
  t4 := Tryd.underlying4,
  a4 := Tryd.isAgg4,
  z4 := Tryd.sizeOf4,
  v4 := Tryd.zeroValue4,
  t22 := Tryd.underlying28,
  a22 := Tryd.isAgg28,
  z22 := Tryd.sizeOf28,
  v22 := Tryd.zeroValue28,
  i3 := by kernel_rfl }


theorem putRow_grown {w : World} {g q : Nat} {d : Array Int} : w.grownBy (putRow (Value.int .i64) (Sort.ahead w q) g 0 d) (some g) := by
  refine ⟨rfl, rfl, rfl, by simp [putRow, mapBlock, Sort.ahead], fun k hk hne => ?_⟩
  simp [putRow, mapBlock, Sort.ahead, Array.getElem?_modify, show g ≠ k by intro e; subst e; exact hne rfl]

theorem compact_c {F : Foot} {w : World} {B : Nat} {v : Value} {xs : List Int} (h : OwnL eInt F w B 3 v xs) (hl : xs.length ≤ LenMax) :
    Calls Tryd.prog 85 #[v] w fun e w' => ∃ v', e = .returned v' ∧ OwnL eInt F w' B 3 v' (Lib.compact xs) ∧ w.grownBy w' v.ownBlock := by
  obtain ⟨g1, g2⟩ := OwnL.int_iff.1 h
  by_cases h0 : xs = []
  · subst h0
    have hv : ∃ a c, v = .slice a 0 c := by
      rcases g1.2 with ⟨rfl, _⟩ | ⟨g, cap, cur, rfl, _⟩
      · exact ⟨_, _, rfl⟩
      · exact ⟨_, _, rfl⟩
    obtain ⟨a, c, rfl⟩ := hv
    have hS := Any.slices_Compact_int_empty compactL a c w
    change Calls Tryd.prog 85 _ _ _ at hS
    exact hS.mono fun e w' ⟨he, hw⟩ => ⟨_, he, by subst hw; exact h, by subst hw; exact World.grownBy.refl _ _⟩
  · have hv : v ≠ .slice none 0 0 := by
      intro e; subst e
      rcases g1.2 with ⟨_, e0⟩ | ⟨g, cap, cur, e0, _⟩
      · exact h0 (List.eq_nil_of_length_eq_zero e0)
      · cases e0
    obtain ⟨g, cap, rfl, hb, hlt, hnc, hcm, hlen, hH⟩ := Lib.holds_of_ownsRow g1 hv
    have hS := Any.slices_Compact_int compactL g 0 cap xs w hH (by unfold LenMax at hl; omega) hnc
    change Calls Tryd.prog 85 _ _ _ at hS
    refine hS.mono fun e w' ⟨he, q, hw⟩ => ⟨_, he, ?_, ?_⟩
    · subst hw
      rw [OwnL.int_iff]
      have hle := Lib.compact_length_le xs
      have h5 := Lib.ownsRow_putRow (q := q) (ys := Lib.compact xs ++ List.replicate (xs.length - (Lib.compact xs).length) 0) (k := (Lib.compact xs).length) g1 (by simp; omega) hle
      rw [List.take_left'  rfl] at h5
      refine ⟨h5, fun y hy => g2 y ?_⟩
      unfold Lib.compact Lib.compactUpTo at hy
      obtain ⟨j, hj, rfl⟩ := List.mem_map.1 hy
      have hj2 := List.mem_range.1 (List.mem_filter.1 hj).1
      simp [getElem!_pos, hj2]
    · subst hw
      exact putRow_grown

def orderL (xs : List Int) : List Int := Lib.compact (sortLits xs)

theorem mem_compact {zs : List Int} {y : Int} : y ∈ Lib.compact zs ↔ y ∈ zs := by
  unfold Lib.compact Lib.compactUpTo
  constructor
  · intro hy
    obtain ⟨j, hj, rfl⟩ := List.mem_map.1 hy
    have hj2 := List.mem_range.1 (List.mem_filter.1 hj).1
    simp [getElem!_pos, hj2]
  · intro hy
    obtain ⟨k, hk, rfl⟩ := List.mem_iff_getElem.1 hy
    -- the first place of the run
    have : ∀ k (hk : k < zs.length), ∃ j, j ≤ k ∧ Lib.keeps zs.toArray j = true ∧ zs.toArray[j]! = zs[k] := by
      intro k
      induction k with
      | zero => intro hk; exact ⟨0, Nat.le_refl _, Lib.keeps_lt_one _ 0 (by omega), by simp [getElem!_pos, hk]⟩
      | succ k ih =>
        intro hk
        by_cases hkeep : Lib.keeps zs.toArray (k + 1) = true
        · exact ⟨k + 1, Nat.le_refl _, hkeep, by simp [getElem!_pos, hk]⟩
        · obtain ⟨j, h1, h2, h3⟩ := ih (by omega)
          refine ⟨j, by omega, h2, ?_⟩
          rw [h3]
          unfold Lib.keeps at hkeep
          simp [getElem!_pos, hk, show k < zs.length by omega] at hkeep
          exact hkeep.symm
    obtain ⟨j, h1, h2, h3⟩ := this k hk
    exact List.mem_map.2 ⟨j, List.mem_filter.2 ⟨List.mem_range.2 (by omega), h2⟩, h3⟩

theorem mem_orderL {xs : List Int} {y : Int} : y ∈ orderL xs ↔ y ∈ xs := by
  unfold orderL sortLits
  rw [mem_compact, List.mem_mergeSort]

theorem orderL_len (xs : List Int) : (orderL xs).length ≤ xs.length := by
  have := Lib.compact_length_le (sortLits xs)
  unfold orderL
  have h2 : (sortLits xs).length = xs.length := List.length_mergeSort _
  omega

theorem order_c {F : Foot} {w : World} {v : Value} {xs : List Int} (h : Ints F w v xs) (hr : ∀ y ∈ xs, -128 ≤ y ∧ y ≤ 128) :
    Calls Tryd.prog 67 #[v] w (GivesOwn w (orderL xs)) := by
  have hp := clone_c h
  have hlen : xs.length ≤ LenMax := by obtain ⟨a, n, c, _, hn, _, hm, _⟩ := h.open; omega
  have HR := Lib.hid hr
  have HL := Lib.hid hlen
  clear h hr hlen
  go_enter Tryd.func67, Tryd.ntmps67
  go_wp2_with fail
  refine hp.mono ?_
  rintro e w1 ⟨v1, rfl, hown1, hb1⟩
  have hq := sortLits_c hown1 HR.out HL.out
  clear hp
  go_wp2_with fail
  refine hq.mono ?_
  rintro e w2 ⟨rfl, hown2, hg2⟩
  have hs := compact_c hown2 (by have h2 : (sortLits xs).length = xs.length := List.length_mergeSort _; rw [h2]; exact HL.out)
  have hb2 := hb1.grown hg2 hb1.size (fun g hg => (hown1.lt hg).1)
  clear hq hown1 hg2
  go_wp2_with fail
  refine hs.mono ?_
  rintro e w3 ⟨v3, rfl, hown3, hg3⟩
  have hb3 := hb2.grown hg3 hb2.size (fun g hg => (hown2.lt hg).1)
  clear hs hown2 hg3
  go_wp2
  go_ret
  exact ⟨_, rfl, hown3, hb3⟩

end Go.Proofs.YtafikekndefjcaaDoor
