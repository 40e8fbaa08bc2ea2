/- Keys put again and again: the entries and the last calls (plain); no condition. -/
import Derived.Test.YtafikekndefjcaaDoorCe17
import Derived.Test.YtafikekndefjcaaDoorKp17
namespace Go.Proofs.YtafikekndefjcaaDoor
set_option linter.unusedVariables false
set_option linter.unusedSimpArgs false
set_option linter.unusedSectionVars false
open Go.RowKit
set_option maxRecDepth 100000
def enA (keys : List Int) (i : Nat) : List Int × Int := ([keys.getD i 0], (i : Int))
def dA (keys : List Int) (k : Nat) : List (List Int × Int) := lastZ ((List.range k).map (enA keys))
theorem dA_succ (keys : List Int) (k : Nat) : dA keys (k + 1) = ((dA keys k).filter fun x => decide (x.1 ≠ (enA keys k).1)) ++ [enA keys k] := by
  unfold dA lastZ
  rw [List.range_succ, List.map_append, List.foldl_append]
  rfl
structure DOk (D : List (List Int × Int)) (k : Nat) : Prop where
  key : D.Pairwise fun a b => a.1 ≠ b.1
  ent : ∀ e ∈ D, entZ e = 17
  val : ∀ e ∈ D, 0 ≤ e.2 ∧ e.2 < (k : Int)
  srt : D.Pairwise fun a b => a.2 < b.2
theorem dA_ok (keys : List Int) : ∀ k, DOk (dA keys k) k
  | 0 => ⟨List.Pairwise.nil, fun e he => (by cases he), fun e he => (by cases he), List.Pairwise.nil⟩
  | k + 1 => by
    have h := dA_ok keys k
    rw [dA_succ]
    have hm : ∀ e ∈ ((dA keys k).filter fun x => decide (x.1 ≠ (enA keys k).1)) ++ [enA keys k], (e ∈ dA keys k ∧ e.1 ≠ (enA keys k).1) ∨ e = enA keys k := fun e he => by
      rcases List.mem_append.1 he with he | he
      · obtain ⟨h1, h2⟩ := List.mem_filter.1 he
        exact .inl ⟨h1, by simpa using h2⟩
      · exact .inr (by simpa using he)
    refine ⟨List.pairwise_append.2 ⟨h.key.sublist List.filter_sublist, List.pairwise_singleton _ _, fun a ha b hb => ?_⟩, fun e he => ?_, fun e he => ?_, List.pairwise_append.2 ⟨h.srt.sublist List.filter_sublist, List.pairwise_singleton _ _, fun a ha b hb => ?_⟩⟩
    · obtain rfl : b = enA keys k := by simpa using hb
      have := (List.mem_filter.1 ha).2
      simpa using this
    · rcases hm e he with ⟨h1, _⟩ | rfl
      · exact h.ent e h1
      · rfl
    · rcases hm e he with ⟨h1, _⟩ | rfl
      · have := h.val e h1; omega
      · exact ⟨Int.natCast_nonneg _, by show (k : Int) < ((k + 1 : Nat) : Int); omega⟩
    · obtain rfl : b = enA keys k := by simpa using hb
      exact (h.val a (List.mem_filter.1 ha).1).2
def esA (keys : List Int) (M : Int) (k : Nat) : List (List Int × Int) := dropZ M.toNat (dA keys k)
theorem small_nil {M : Nat} (hM : M < 17) {D : List (List Int × Int)} (hD : ∀ e ∈ D, entZ e = 17) : dropZ M D = [] := by
  have h1 := drop_use M D
  have h2 : ∀ e ∈ dropZ M D, entZ e = 17 := fun e he => hD e ((drop_sfx M D).subset he)
  rw [use_same h2] at h1
  exact List.eq_nil_of_length_eq_zero (by omega)
theorem esA_succ (keys : List Int) (M : Int) (k : Nat) : esA keys M (k + 1) = putZ M.toNat (esA keys M k) (enA keys k) := by
  have h := dA_ok keys k
  unfold esA
  by_cases hM : M.toNat < 17
  · rw [small_nil hM (dA_ok keys (k + 1)).ent, small_nil hM h.ent]
    unfold putZ
    rw [if_pos (by show 17 > M.toNat; exact hM)]
  · rw [put_again (s := 17) (by decide) (by omega) h.ent h.key rfl, dA_succ]
theorem esA_ent (keys : List Int) (M : Int) (k : Nat) : ∀ e ∈ esA keys M k, entZ e = 17 := fun e he => (dA_ok keys k).ent e ((drop_sfx _ _).subset he)
theorem esA_len (keys : List Int) (M : Int) (k : Nat) : (esA keys M k).length ≤ M.toNat / 17 := by
  have h1 : useZ (esA keys M k) ≤ M.toNat := drop_use M.toNat (dA keys k)
  rw [use_same (esA_ent keys M k)] at h1
  omega
def updR (key v : Int) : List (Int × Int) → List (Int × Int)
  | [] => [(key, v)]
  | p :: r => if p.1 = key then (key, v) :: r else p :: updR key v r
def posR (key : Int) : List (Int × Int) → Option Nat
  | [] => none
  | p :: r => if p.1 = key then some 0 else (posR key r).map (· + 1)
def toV (p : Int × Int) : Value × Value := (.int .u8 p.1, .int .i64 p.2)
def rowV (p : Int × Int) : List AV := [.v (.int .u8 p.1), .v (.int .i64 p.2)]
theorem find_rows (key : Int) : ∀ (R : List (Int × Int)) (i : Nat), findA (.int .u8) (.int .u8 key) (R.map rowV) i = some ((posR key R).map (· + i))
  | [], i => rfl
  | p :: r, i => by
    have hs : Instr.sameNow (.int .u8) (.int .u8 key) (.int .u8 p.1) = some (decide (key = p.1)) := by
      simp only [Instr.sameNow]
      by_cases h : key = p.1 <;> simp [h]
    rw [List.map_cons]
    unfold rowV posR findA
    rw [hs]
    by_cases h : p.1 = key
    · rw [if_pos h, decide_eq_true h.symm]; simp
    · rw [if_neg h, decide_eq_false (fun e => h e.symm)]
      have := find_rows key r (i + 1)
      unfold rowV at this
      simp only [this, Option.map_map]
      congr 2
      funext x
      simp only [Function.comp_apply]; omega
theorem put_rows (key v : Int) : ∀ R : List (Int × Int), putM (R.map rowV) (posR key R) (.int .u8 key) (.v (.int .i64 v)) = (updR key v R).map rowV
  | [] => rfl
  | p :: r => by
    unfold posR updR
    by_cases h : p.1 = key
    · rw [if_pos h, if_pos h]; rfl
    · rw [if_neg h, if_neg h]
      have := put_rows key v r
      cases hp : posR key r with
      | none =>
        rw [hp] at this
        simp only [Option.map_none, putM, List.map_cons, List.cons_append] at this ⊢
        rw [this]
      | some j =>
        rw [hp] at this
        simp only [Option.map_some, putM, List.map_cons, List.set_cons_succ] at this ⊢
        rw [this]
def fP (p : Int × Int) : List Int × Int := ([p.1], p.2)
theorem upd_perm (key v : Int) : ∀ R : List (Int × Int), R.Pairwise (fun a b => a.1 ≠ b.1) → (updR key v R).Perm ((R.filter fun x => decide (x.1 ≠ key)) ++ [(key, v)])
  | [], _ => .refl _
  | p :: r, h => by
    obtain ⟨h1, h2⟩ := List.pairwise_cons.1 h
    unfold updR
    rw [List.filter_cons]
    by_cases e : p.1 = key
    · have hf : r.filter (fun x => decide (x.1 ≠ key)) = r := List.filter_eq_self.2 fun x hx => decide_eq_true (fun he => h1 x hx (e.trans (Eq.symm he)))
      rw [if_pos e, if_neg (by simpa using e), hf]
      exact (List.perm_append_singleton _ _).symm
    · rw [if_neg e, if_pos (decide_eq_true e)]
      exact (upd_perm key v r h2).cons p
def rowsA (keys : List Int) : Nat → List (Int × Int)
  | 0 => []
  | k + 1 => updR (keys.getD k 0) (k : Int) (rowsA keys k)
theorem rows_perm (keys : List Int) : ∀ k, ((rowsA keys k).map fP).Perm (dA keys k)
  | 0 => .refl _
  | k + 1 => by
    have ih := rows_perm keys k
    have hp : (rowsA keys k).Pairwise fun a b => a.1 ≠ b.1 := by
      have h1 := (ih.pairwise_iff (R := fun a b : List Int × Int => a.1 ≠ b.1) (fun {_ _} h => Ne.symm h)).2 (dA_ok keys k).key
      rw [List.pairwise_map] at h1
      exact h1.imp fun h e => h (by show [_] = [_]; rw [e])
    have h2 := (upd_perm (keys.getD k 0) (k : Int) _ hp).map fP
    rw [dA_succ]
    refine h2.trans ?_
    rw [List.map_append]
    have e : ((rowsA keys k).filter fun x => decide (x.1 ≠ keys.getD k 0)).map fP = ((rowsA keys k).map fP).filter fun x => decide (x.1 ≠ (enA keys k).1) := by
      rw [List.filter_map]
      congr 1
      refine List.filter_congr fun x _ => ?_
      simp [fP, enA]
    rw [e]
    exact (ih.filter _).append_right _
def cntA (i : Int) (L : List (Int × Int)) : Nat := (L.filter fun q => decide (i < q.2)).length
theorem rows_len (keys : List Int) (k : Nat) : (rowsA keys k).length ≤ k := by
  induction k with
  | zero => exact Nat.le_refl _
  | succ k ih =>
    have : ∀ R : List (Int × Int), (updR (keys.getD k 0) (k : Int) R).length ≤ R.length + 1 := by
      intro R
      induction R with
      | nil => exact Nat.le_refl _
      | cons p r ih2 =>
        unfold updR
        split
        · simp
        · simp only [List.length_cons]; omega
    have := this (rowsA keys k)
    unfold rowsA
    omega
theorem mem_upd {key v : Int} {q : Int × Int} : ∀ {R : List (Int × Int)}, q ∈ updR key v R → q ∈ R ∨ q = (key, v)
  | [], h => .inr (by simpa [updR] using h)
  | p :: r, h => by
    unfold updR at h
    split at h
    · rcases List.mem_cons.1 h with h | h
      · exact .inr h
      · exact .inl (List.mem_cons_of_mem _ h)
    · rcases List.mem_cons.1 h with h | h
      · exact .inl (by rw [h]; exact List.mem_cons_self)
      · rcases mem_upd h with h | h
        · exact .inl (List.mem_cons_of_mem _ h)
        · exact .inr h
theorem rows_val {keys : List Int} {k : Nat} {p : Int × Int} (h : p ∈ rowsA keys k) : 0 ≤ p.2 ∧ p.2 < (k : Int) :=
  (dA_ok keys k).val (fP p) ((rows_perm keys k).subset (List.mem_map.2 ⟨p, h, rfl⟩))
theorem rows_key {keys : List Int} (hk : okB keys = true) : ∀ {k : Nat} {p : Int × Int}, k ≤ keys.length → p ∈ rowsA keys k → 0 ≤ p.1 ∧ p.1 < 256
  | 0, p, _, h => by cases h
  | k + 1, p, hl, h => by
    unfold rowsA at h
    rcases mem_upd h with h | h
    · exact rows_key hk (by omega) h
    · rw [h]
      unfold okB at hk
      rw [List.all_eq_true] at hk
      have e : keys.getD k 0 = keys[k] := by simp [List.getD, show k < keys.length by omega]
      have := hk _ (List.getElem_mem (show k < keys.length by omega))
      rw [Bool.and_eq_true, decide_eq_true_eq, decide_eq_true_eq] at this
      show 0 ≤ keys.getD k 0 ∧ keys.getD k 0 < 256
      rw [e]; exact this
theorem again_get {keys : List Int} {M : Int} {n : Nat} {p : Int × Int} (h : p ∈ rowsA keys n) : getZ (esA keys M n) [p.1] = if cntA p.2 (rowsA keys n) < M.toNat / 17 then some p.2 else none := by
  have hD := dA_ok keys n
  have hp := rows_perm keys n
  obtain ⟨A, C, hAC⟩ := List.append_of_mem (hp.subset (List.mem_map.2 ⟨p, h, rfl⟩))
  have hc : cntA p.2 (rowsA keys n) = C.length := by
    have h1 : cntA p.2 (rowsA keys n) = ((dA keys n).filter fun q => decide (p.2 < q.2)).length := by
      rw [← (hp.filter fun q => decide (p.2 < q.2)).length_eq, List.filter_map, List.length_map]
      rfl
    have hs := hD.srt
    rw [hAC] at hs
    obtain ⟨s1, s2, s3⟩ := List.pairwise_append.1 hs
    obtain ⟨s4, s5⟩ := List.pairwise_cons.1 s2
    rw [h1, hAC, List.filter_append, List.filter_cons]
    have e1 : A.filter (fun q => decide (p.2 < q.2)) = [] := List.filter_eq_nil_iff.2 fun x hx => by
      have : x.2 < p.2 := s3 x hx _ List.mem_cons_self
      simp; omega
    have e2 : C.filter (fun q => decide (p.2 < q.2)) = C := List.filter_eq_self.2 fun x hx => decide_eq_true (s4 x hx)
    rw [e1, e2, if_neg (by simp [fP]), List.nil_append]
  have hk := hD.key
  have he := hD.ent
  unfold esA
  rw [hAC] at hk he ⊢
  have := kept (m := M.toNat) hk
  rw [show (fP p).1 = [p.1] from rfl] at this
  rw [this, use_same (s := 17) (fun e h => he e (List.mem_append_right _ h)), hc, List.length_cons]
  show (if _ then some p.2 else none) = _
  congr 1
  rw [eq_iff_iff]
  omega
end Go.Proofs.YtafikekndefjcaaDoor
