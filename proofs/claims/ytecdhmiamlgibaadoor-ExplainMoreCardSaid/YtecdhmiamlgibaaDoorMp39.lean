/- The map of the words of the variables, as entries; no condition. -/
import Derived.Test.YtecdhmiamlgibaaDoorTd39
namespace Go.Proofs.YtecdhmiamlgibaaDoor
set_option linter.unusedVariables false
set_option linter.unusedSimpArgs false
set_option linter.unusedSectionVars false
open Go.RowKit
set_option maxRecDepth 100000
abbrev En := Int × BitVec 64
def findE : List En → Int → Nat → Option Nat
  | [], _, _ => none
  | p :: r, u, i => if u = p.1 then some i else findE r u (i + 1)
def lookE : List En → Int → BitVec 64
  | [], _ => 0#64
  | p :: r, u => if u = p.1 then p.2 else lookE r u
@[simp] theorem findA_en (u : Int) : ∀ (es : List En) (i : Nat), findA (.int .i64) (.int .i64 u) (es.map fun p => [AV.v (.int .i64 p.1), .v (.int .u64 (p.2.toNat : Int))]) i = some (findE es u i)
  | [], i => rfl
  | p :: r, i => by
    rw [List.map_cons, findA, findE]
    by_cases h : u = p.1
    · have : Instr.sameNow (.int .i64) (.int .i64 u) (.int .i64 p.1) = some true := by simp [Instr.sameNow, h]
      rw [this, if_pos h]
    · have : Instr.sameNow (.int .i64) (.int .i64 u) (.int .i64 p.1) = some false := by simp [Instr.sameNow, h]
      rw [this, if_neg h]
      exact findA_en u r (i + 1)
theorem findE_none : ∀ {es : List En} {u : Int} {i : Nat}, (∀ p ∈ es, p.1 ≠ u) → findE es u i = none
  | [], _, _, _ => rfl
  | p :: r, u, i, h => by
    rw [findE, if_neg (fun e => h p (by simp) e.symm)]
    exact findE_none fun q hq => h q (by simp [hq])
theorem find_look : ∀ (es : List En) (u : Int) (i : Nat), (findE es u i = none → lookE es u = 0#64) ∧ ∀ j, findE es u i = some j → i ≤ j ∧ j - i < es.length ∧ lookE es u = (es.getD (j - i) (0, 0#64)).2
  | [], u, i => ⟨fun _ => rfl, fun j h => by cases h⟩
  | p :: r, u, i => by
    obtain ⟨h1, h2⟩ := find_look r u (i + 1)
    rw [findE, lookE]
    by_cases h : u = p.1
    · rw [if_pos h, if_pos h]
      refine ⟨fun h => (nomatch h), fun j hj => ?_⟩
      cases hj
      exact ⟨Nat.le_refl _, by simp, by simp⟩
    · rw [if_neg h, if_neg h]
      refine ⟨h1, fun j hj => ?_⟩
      obtain ⟨g1, g2, g3⟩ := h2 j hj
      refine ⟨by omega, by rw [List.length_cons]; omega, ?_⟩
      rw [g3, show j - i = (j - (i + 1)) + 1 by omega]; simp
@[simp] theorem en_get {l : List En} {k : Nat} (h : k < l.length) : (l.map fun p => [AV.v (.int .i64 p.1), .v (.int .u64 (p.2.toNat : Int))]).getD k [] = [.v (.int .i64 (l.getD k (0, 0#64)).1), .v (.int .u64 ((l.getD k (0, 0#64)).2.toNat : Int))] := by
  simp [List.getD, h]
theorem foundR_en (es : List En) (u : Int) : foundR false (es.map fun p => [AV.v (.int .i64 p.1), .v (.int .u64 (p.2.toNat : Int))]) (.int .u64 0) (findE es u 0) = .v (.int .u64 ((lookE es u).toNat : Int)) := by
  obtain ⟨h1, h2⟩ := find_look es u 0
  cases hf : findE es u 0 with
  | none => rw [h1 hf]; rfl
  | some j =>
    obtain ⟨_, g2, g3⟩ := h2 j hf
    rw [Nat.sub_zero] at g2 g3
    rw [g3]
    unfold foundR
    simp [List.getD, g2, lookR]
def entL (vs : List Int) (frm : Nat) : Nat → List En
  | 0 => []
  | k + 1 => if k < 6 then entL vs frm k ++ [(vs.getD k 0, maskW k)] else if frm.testBit k = true then entL vs frm k ++ [(vs.getD k 0, BitVec.allOnes 64)] else entL vs frm k
theorem ent_keys (vs : List Int) (frm : Nat) : ∀ k, ∀ p ∈ entL vs frm k, ∃ j, j < k ∧ p.1 = vs.getD j 0
  | 0, p, h => by cases h
  | k + 1, p, h => by
    have ih := ent_keys vs frm k
    rw [entL] at h
    split at h
    · rcases List.mem_append.1 h with h | h
      · obtain ⟨j, h1, h2⟩ := ih p h; exact ⟨j, by omega, h2⟩
      · rw [List.mem_singleton] at h; exact ⟨k, by omega, by rw [h]⟩
    · split at h
      · rcases List.mem_append.1 h with h | h
        · obtain ⟨j, h1, h2⟩ := ih p h; exact ⟨j, by omega, h2⟩
        · rw [List.mem_singleton] at h; exact ⟨k, by omega, by rw [h]⟩
      · obtain ⟨j, h1, h2⟩ := ih p h; exact ⟨j, by omega, h2⟩
theorem nodup_get {vs : List Int} (h : vs.Nodup) {i j : Nat} (hi : i < vs.length) (hj : j < vs.length) (e : vs.getD i 0 = vs.getD j 0) : i = j := by
  have h1 := posV_get h hi
  have h2 := posV_get h hj
  rw [e, h2] at h1
  exact (Option.some.inj h1).symm
theorem ent_new {vs : List Int} (h : okVs vs) (frm : Nat) {k : Nat} (hk : k < vs.length) : ∀ p ∈ entL vs frm k, p.1 ≠ vs.getD k 0 := fun p hp e => by
  obtain ⟨j, h1, h2⟩ := ent_keys vs frm k p hp
  have := nodup_get h.1 (by omega) hk (h2.symm.trans e)
  omega
theorem ent_len (vs : List Int) (frm : Nat) : ∀ k, (entL vs frm k).length ≤ k
  | 0 => Nat.le_refl _
  | k + 1 => by
    have := ent_len vs frm k
    rw [entL]
    split
    · rw [List.length_append, List.length_singleton]; omega
    · split
      · rw [List.length_append, List.length_singleton]; omega
      · omega
theorem look_snoc {v : Int} {w : BitVec 64} (u : Int) : ∀ {es : List En}, (∀ p ∈ es, p.1 ≠ v) → lookE (es ++ [(v, w)]) u = if u = v then w else lookE es u
  | [], _ => by simp [lookE]
  | p :: r, h => by
    rw [List.cons_append, lookE, lookE, look_snoc u fun q hq => h q (by simp [hq])]
    have := h p (by simp)
    by_cases e : u = p.1
    · rw [if_pos e, if_neg (by rw [e]; exact this), if_pos e]
    · rw [if_neg e, if_neg e]
theorem look_none {v : Int} : ∀ {es : List En}, (∀ p ∈ es, p.1 ≠ v) → lookE es v = 0#64
  | [], _ => rfl
  | p :: r, h => by
    rw [lookE, if_neg (fun e => h p (by simp) e.symm)]
    exact look_none fun q hq => h q (by simp [hq])
theorem look_step {vs : List Int} (h : okVs vs) (frm : Nat) {k : Nat} (hk : k < vs.length) (u : Int) : lookE (entL vs frm (k + 1)) u = if u = vs.getD k 0 then wordP k frm else lookE (entL vs frm k) u := by
  have hn := ent_new h frm hk
  rw [entL]
  unfold wordP
  split
  · exact look_snoc u hn
  · split
    · exact look_snoc u hn
    · split
      · rename_i e; rw [e]; exact look_none hn
      · rfl
theorem look_ent {vs : List Int} (h : okVs vs) (frm : Nat) (u : Int) : ∀ k, k ≤ vs.length → lookE (entL vs frm k) u = match posV vs u with
    | some p => if p < k then wordP p frm else 0#64
    | none => 0#64
  | 0, _ => by
    cases posV vs u with
    | none => rfl
    | some p => rfl
  | k + 1, hk => by
    rw [look_step h frm hk u, look_ent h frm u k (by omega)]
    by_cases e : u = vs.getD k 0
    · rw [if_pos e, e, posV_get h.1 hk]
      show _ = if k < k + 1 then _ else _
      rw [if_pos (by omega)]
    · rw [if_neg e]
      cases hp : posV vs u with
      | none => rfl
      | some p =>
        show (if p < k then _ else _) = if p < k + 1 then _ else _
        by_cases hpk : p < k
        · rw [if_pos hpk, if_pos (by omega)]
        · rw [if_neg hpk, if_neg]
          intro h2
          obtain rfl : p = k := by omega
          by_cases hu : u ∈ vs
          · obtain ⟨q, g1, _, g3⟩ := posV_some hu
            rw [hp] at g1
            cases g1
            exact e g3.symm
          · rw [posV_none hu] at hp; cases hp
theorem look_of {vs : List Int} (h : okVs vs) (frm : Nat) (u : Int) : lookE (entL vs frm vs.length) u = ofW vs frm u := by
  rw [look_ent h frm u _ (Nat.le_refl _)]
  unfold ofW
  cases hp : posV vs u with
  | none => rfl
  | some p =>
    by_cases hu : u ∈ vs
    · obtain ⟨q, g1, g2, _⟩ := posV_some hu
      rw [hp] at g1
      cases g1
      show (if p < vs.length then _ else _) = _
      rw [if_pos g2]
    · rw [posV_none hu] at hp; cases hp
@[simp ↓ high] theorem d_ids_en (es : List En) : idsLL (es.map fun p => [AV.v (.int .i64 p.1), .v (.int .u64 (p.2.toNat : Int))]) = [] := by
  induction es with
  | nil => rfl
  | cons p r ih => simp [idsLL, idsL, AV.ids, ih]
@[simp ↓ high] theorem d_ren_en (ρ : Nat → Nat) (es : List En) : renLL ρ (es.map fun p => [AV.v (.int .i64 p.1), .v (.int .u64 (p.2.toNat : Int))]) = es.map fun p => [AV.v (.int .i64 p.1), .v (.int .u64 (p.2.toNat : Int))] := renLL_pure ρ _ (d_ids_en es)
def aWords (l : List (BitVec 64)) : List (List AV) := l.map fun w => [AV.v (.int .u64 (w.toNat : Int))]
@[simp ↓ high] theorem d_ids_words (l : List (BitVec 64)) : idsLL (l.map fun w => [AV.v (.int .u64 (w.toNat : Int))]) = [] := by
  induction l with
  | nil => rfl
  | cons p r ih => simp [idsLL, idsL, AV.ids, ih]
@[simp ↓ high] theorem d_ren_words (ρ : Nat → Nat) (l : List (BitVec 64)) : renLL ρ (l.map fun w => [AV.v (.int .u64 (w.toNat : Int))]) = l.map fun w => [AV.v (.int .u64 (w.toNat : Int))] := renLL_pure ρ _ (d_ids_words l)
@[simp] theorem words_get {l : List (BitVec 64)} {k : Nat} (h : k < l.length) : (l.map fun w => [AV.v (.int .u64 (w.toNat : Int))]).getD k [] = [.v (.int .u64 ((l.getD k 0#64).toNat : Int))] := by
  simp [List.getD, h]
end Go.Proofs.YtecdhmiamlgibaaDoor
