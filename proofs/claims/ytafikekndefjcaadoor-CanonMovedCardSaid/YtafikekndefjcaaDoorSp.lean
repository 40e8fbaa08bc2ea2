/- Plain laws of small forms: the names of variables, and a renaming that keeps their order; no program. -/
import Derived.Test.YtafikekndefjcaaDoorPl4
import Derived.Test.YtafikekndefjcaaDoorVl
namespace Go.Proofs.YtafikekndefjcaaDoor
set_option linter.unusedVariables false
set_option linter.unusedSimpArgs false
set_option linter.unusedSectionVars false
open Go.RowKit
set_option maxRecDepth 100000
/-! ### The list of a set -/
theorem listS_eq (s : BitVec 128) : listS s = ((List.range 128).map fun i : Nat => ((i : Int) + 1)).filter fun v => sHas s v := by
  unfold listS wVars bitsW
  rw [show (128 : Nat) = 64 + 64 from rfl, List.range_add, List.map_append, List.filter_append, List.filter_map]
  congr 1
  · have e : (List.range 64).filter (fun i => (lo s).toNat.testBit i) = (List.range 64).filter ((fun v => sHas s v) ∘ fun i : Nat => ((i : Int) + 1)) := List.filter_congr fun i hi => by
      rw [List.mem_range] at hi
      show (lo s).toNat.testBit i = sHas s ((i : Int) + 1)
      rw [sHas_lo s _ (by omega) (by omega), show ((i : Int) + 1 - 1).toNat = i by omega]; rfl
    rw [e]
    apply List.map_congr_left
    intro i _
    show ((1 + i : Nat) : Int) = (i : Int) + 1
    omega
  · rw [List.map_map, List.filter_map]
    have e : (List.range 64).filter (fun i => (hi s).toNat.testBit i) = (List.range 64).filter ((fun v => sHas s v) ∘ ((fun i : Nat => ((i : Int) + 1)) ∘ fun x => 64 + x)) := List.filter_congr fun i hi' => by
      rw [List.mem_range] at hi'
      show (hi s).toNat.testBit i = sHas s (((64 + i : Nat) : Int) + 1)
      rw [sHas_hi s _ (by omega) (by omega), show (((64 + i : Nat) : Int) + 1 - 65).toNat = i by omega]; rfl
    rw [e]
    apply List.map_congr_left
    intro i _
    show ((65 + i : Nat) : Int) = ((64 + i : Nat) : Int) + 1
    omega
theorem listS_mem (s : BitVec 128) (v : Int) : v ∈ listS s ↔ sHas s v = true := by
  rw [listS_eq, List.mem_filter, List.mem_map]
  constructor
  · exact fun h => h.2
  · intro h
    obtain ⟨h1, h2⟩ := sHas_mem h
    exact ⟨⟨(v - 1).toNat, List.mem_range.2 (by omega), by omega⟩, h⟩
theorem listS_sorted (s : BitVec 128) : (listS s).Pairwise (· < ·) := by
  rw [listS_eq]
  refine List.Pairwise.filter _ (List.pairwise_map.2 ?_)
  exact List.pairwise_lt_range.imp fun h => by omega
theorem sortedI_get {xs : List Int} (h : xs.Pairwise (· < ·)) {i j : Nat} (hij : i < j) (hj : j < xs.length) : xs.getD i 0 < xs.getD j 0 := by
  have := List.pairwise_iff_getElem.1 h i j (by omega) hj hij
  simpa [List.getD, hj, show i < xs.length by omega] using this
theorem mem_getD {xs : List Int} {v : Int} (h : v ∈ xs) : ∃ i, i < xs.length ∧ xs.getD i 0 = v := by
  obtain ⟨i, hi, rfl⟩ := List.getElem_of_mem h
  exact ⟨i, hi, by simp [List.getD, hi]⟩
/-! ### Numbers of names -/
def numK (names : List Int) : Nat → List Int
  | 0 => List.replicate 129 0
  | k + 1 => (numK names k).set (names.getD k 0).toNat ((k : Int) + 1)
def numOf (names : List Int) (v : Int) : Int := (numK names names.length).getD v.toNat 0
theorem numK_len (names : List Int) : ∀ k, (numK names k).length = 129
  | 0 => by simp [numK]
  | k + 1 => by rw [numK, List.length_set]; exact numK_len names k
structure Names (l : List Int) : Prop where
  s : l.Pairwise (· < ·)
  r : ∀ v ∈ l, 1 ≤ v ∧ v ≤ 128
theorem names_listS (s : BitVec 128) : Names (listS s) := ⟨listS_sorted s, fun v h => sHas_mem ((listS_mem s v).1 h)⟩
theorem numK_get {names : List Int} (h : Names names) : ∀ k, k ≤ names.length → ∀ i, i < k → (numK names k).getD (names.getD i 0).toNat 0 = (i : Int) + 1
  | 0, _, i, hi => by omega
  | k + 1, hk, i, hi => by
    have hkr := h.r _ (getD_memI (show k < names.length by omega))
    have hl := numK_len names k
    rw [numK]
    obtain ⟨j, hj⟩ : ∃ j, (names.getD k 0).toNat = j := ⟨_, rfl⟩
    rw [hj]
    by_cases e : i = k
    · subst e
      rw [hj]
      simp [List.getD, hl, show j < 129 by omega]
    · have hlt := sortedI_get h.s (show i < k by omega) (by omega)
      have hir := h.r _ (getD_memI (show i < names.length by omega))
      have ih := numK_get h k (by omega) i (by omega)
      have hne : ¬ j = (names.getD i 0).toNat := by omega
      generalize (names.getD i 0).toNat = q at ih hne ⊢
      simp only [List.getD, List.getElem?_set] at ih ⊢
      rw [if_neg hne]; exact ih
theorem numOf_get {names : List Int} (h : Names names) {i : Nat} (hi : i < names.length) : numOf names (names.getD i 0) = (i : Int) + 1 := numK_get h _ (Nat.le_refl _) i hi
theorem sorted_len {l : List Int} {a b : Int} (hs : l.Pairwise (· < ·)) (hr : ∀ v ∈ l, a ≤ v ∧ v ≤ b) (hab : a ≤ b + 1) : (l.length : Int) ≤ b + 1 - a := by
  induction l generalizing a with
  | nil => simp; omega
  | cons x l ih =>
    rw [List.pairwise_cons] at hs
    have h0 := hr x List.mem_cons_self
    have := ih (a := x + 1) hs.2 (fun v hv => ⟨by have := hs.1 v hv; omega, (hr v (List.mem_cons_of_mem _ hv)).2⟩) (by omega)
    rw [List.length_cons]; omega
theorem names_len {names : List Int} (h : Names names) : names.length ≤ 128 := by
  have := sorted_len h.s h.r (by omega); omega
/-! ### A renaming that keeps the order -/
structure Ren (V : Int → Bool) (p : Int → Int) (n : Int) : Prop where
  pos : ∀ v, V v = true → 1 ≤ v ∧ v ≤ 128
  rng : ∀ v, V v = true → 1 ≤ p v ∧ p v ≤ n
  mono : ∀ v u, V v = true → V u = true → v < u → p v < p u
  le : n ≤ 128
def renl (p : Int → Int) (l : Int) : Int := if l < 0 then -(p (litVar l)) else p (litVar l)
def GoodR (V : Int → Bool) (c : List Int) : Prop := ∀ l ∈ c, V (litVar l) = true
section
variable {V : Int → Bool} {p : Int → Int} {n : Int} (h : Ren V p n)
include h
theorem Ren.abs {l : Int} (hl : V (litVar l) = true) : litVar l = l.natAbs ∧ l ≠ 0 ∧ -128 ≤ l ∧ l ≤ 128 := isLit_abs (by unfold isLit; have := h.pos _ hl; simp; omega)
theorem Ren.lit {l : Int} (hl : V (litVar l) = true) : litVar (renl p l) = p (litVar l) ∧ (renl p l < 0 ↔ l < 0) ∧ renl p l ≠ 0 ∧ (renl p l = p (litVar l) ∨ renl p l = -(p (litVar l))) := by
  have h1 := h.rng _ hl
  have h2 := h.le
  have h3 := h.abs hl
  unfold renl
  split
  · rw [litVar_neg (by omega) (by omega)]; omega
  · rw [litVar_pos (by omega) (by omega)]; omega
theorem Ren.ok {l : Int} (hl : V (litVar l) = true) : litOk (renl p l) n = true := by
  have h1 := h.rng _ hl
  have h2 := (h.lit hl).1
  unfold litOk
  rw [h2]
  simp; omega
theorem Ren.neg {l : Int} (hl : V (litVar l) = true) : renl p (-l) = -renl p l ∧ litVar (-l) = litVar l := by
  have h3 := h.abs hl
  have e : litVar (-l) = litVar l := by
    rw [h3.1]
    by_cases hn : l < 0
    · rw [litVar_pos (by omega) (by omega)]; omega
    · rw [litVar_neg (by omega) (by omega)]; omega
  refine ⟨?_, e⟩
  unfold renl
  rw [e]
  by_cases hn : l < 0
  · rw [if_neg (by omega), if_pos hn]; omega
  · rw [if_pos (by omega), if_neg hn]
theorem Ren.inj {x y : Int} (hx : V (litVar x) = true) (hy : V (litVar y) = true) (e : renl p x = renl p y) : x = y := by
  have h1 := h.lit hx
  have h2 := h.lit hy
  have h3 := h.abs hx
  have h4 := h.abs hy
  rw [e] at h1
  have hv : litVar x = litVar y := by
    rcases Int.lt_trichotomy (litVar x) (litVar y) with hh | hh | hh
    · have := h.mono _ _ hx hy hh; omega
    · exact hh
    · have := h.mono _ _ hy hx hh; omega
  have : (x < 0 ↔ y < 0) := by rw [← h1.2.1, ← h2.2.1]
  omega
theorem Ren.lt {x y : Int} (hx : V (litVar x) = true) (hy : V (litVar y) = true) (hl : litLt x y) : litLt (renl p x) (renl p y) := by
  have h1 := h.lit hx
  have h2 := h.lit hy
  have h3 := h.abs hx
  have h4 := h.abs hy
  unfold litLt at *
  rw [h1.1, h2.1]
  rcases hl with hl | ⟨e, hl⟩
  · exact .inl (h.mono _ _ hx hy hl)
  · right
    refine ⟨by rw [e], ?_⟩
    have hxn : x < 0 := by omega
    have hyp : ¬ y < 0 := by omega
    unfold renl
    rw [if_pos hxn, if_neg hyp, e]
    have := h.rng _ hy
    omega
theorem Ren.cmpG : ∀ {c d : List Int}, GoodR V c → GoodR V d → (cmpG c d < 0 ↔ cmpG (c.map (renl p)) (d.map (renl p)) < 0)
  | [], d, _, _ => by simp [Go.Proofs.YtafikekndefjcaaDoor.cmpG]
  | x :: xs, [], _, _ => by simp [Go.Proofs.YtafikekndefjcaaDoor.cmpG]
  | x :: xs, y :: ys, hc, hd => by
    have hx := hc x List.mem_cons_self
    have hy := hd y List.mem_cons_self
    have ih := Ren.cmpG (c := xs) (d := ys) (fun l hl => hc l (List.mem_cons_of_mem _ hl)) (fun l hl => hd l (List.mem_cons_of_mem _ hl))
    simp only [Go.Proofs.YtafikekndefjcaaDoor.cmpG, List.map_cons]
    by_cases e : x = y
    · subst e; rw [if_pos rfl, if_pos rfl]; exact ih
    · rw [if_neg e, if_neg fun e2 => e (h.inj hx hy e2)]
      have h1 := h.lit hx
      have h2 := h.lit hy
      rw [h1.1, h2.1]
      by_cases ev : litVar x = litVar y
      · rw [if_pos ev, if_pos (by rw [ev])]; exact h1.2.1.symm
      · have hne : p (litVar x) ≠ p (litVar y) := by
          rcases Int.lt_trichotomy (litVar x) (litVar y) with hh | hh | hh
          · have := h.mono _ _ hx hy hh; omega
          · exact absurd hh ev
          · have := h.mono _ _ hy hx hh; omega
        rw [if_neg ev, if_neg hne]
        constructor
        · intro hh; have := h.mono _ _ hx hy (by omega); omega
        · intro hh
          rcases Int.lt_trichotomy (litVar x) (litVar y) with h5 | h5 | h5
          · omega
          · exact absurd h5 ev
          · have := h.mono _ _ hy hx h5; omega
theorem Ren.lits {c : List Int} (hc : GoodR V c) : Lits c ∧ Lits (c.map (renl p)) := by
  refine ⟨fun l hl => ?_, fun l hl => ?_⟩
  · have := h.pos _ (hc l hl); unfold isLit; simp; omega
  · obtain ⟨x, hx, rfl⟩ := List.mem_map.1 hl
    have := h.rng _ (hc x hx)
    unfold isLit; rw [(h.lit (hc x hx)).1]; simp; omega
theorem Ren.clLt {c d : List Int} (hc : GoodR V c) (hd : GoodR V d) (hh : clLt c d) : clLt (c.map (renl p)) (d.map (renl p)) := by
  refine ⟨⟨(h.lits hc).2, (h.lits hd).2⟩, ?_⟩
  have h2 := hh.2
  unfold cmpC at h2 ⊢
  rw [List.length_map, List.length_map]
  split at h2
  · rename_i e; rw [if_pos e]; exact (h.cmpG hc hd).1 h2
  · rename_i e; rw [if_neg e]; exact h2
theorem Ren.mem {c : List Int} (hc : GoodR V c) {x : Int} (hx : V (litVar x) = true) : renl p x ∈ c.map (renl p) ↔ x ∈ c := by
  rw [List.mem_map]
  exact ⟨fun ⟨y, hy, e⟩ => h.inj (hc y hy) hx e ▸ hy, fun hy => ⟨x, hy, rfl⟩⟩
omit h in
theorem altK_iff {c : List Int} {N : Int} (h0 : 0 ≤ N) (hc : ∀ l ∈ c, litOk l N = true) : altK c N.toNat = true ↔ ∃ l ∈ c, -l ∈ c := by
  unfold altK
  rw [List.any_eq_true]
  constructor
  · rintro ⟨i, hi, hh⟩
    simp only [Bool.and_eq_true, decide_eq_true_eq] at hh
    exact ⟨_, hh.1, hh.2⟩
  · rintro ⟨l, hl, hl2⟩
    have h1 := litVar_abs (hc l hl)
    have h2 := litOk_range (hc l hl)
    refine ⟨l.natAbs - 1, List.mem_range.2 (by omega), ?_⟩
    simp only [Bool.and_eq_true, decide_eq_true_eq]
    rcases Int.lt_or_gt_of_ne h2.2.2.1 with hh | hh
    · rw [show ((l.natAbs - 1 : Nat) : Int) + 1 = -l by omega, Int.neg_neg]; exact ⟨hl2, hl⟩
    · rw [show ((l.natAbs - 1 : Nat) : Int) + 1 = l by omega]; exact ⟨hl, hl2⟩
theorem Ren.alt {N : Int} (h0 : 0 ≤ N) (hn : 0 ≤ n) {c : List Int} (hc : GoodR V c) (hN : ∀ l ∈ c, litOk l N = true) : altK (c.map (renl p)) n.toNat = altK c N.toNat := by
  have hok : ∀ l ∈ c.map (renl p), litOk l n = true := fun l hl => by
    obtain ⟨x, hx, rfl⟩ := List.mem_map.1 hl
    exact h.ok (hc x hx)
  rw [Bool.eq_iff_iff, altK_iff hn hok, altK_iff h0 hN]
  constructor
  · rintro ⟨l, hl, hl2⟩
    obtain ⟨x, hx, rfl⟩ := List.mem_map.1 hl
    have hng := h.neg (hc x hx)
    refine ⟨x, hx, (h.mem hc (by rw [hng.2]; exact hc x hx)).1 (by rw [hng.1]; exact hl2)⟩
  · rintro ⟨l, hl, hl2⟩
    have hng := h.neg (hc l hl)
    exact ⟨_, List.mem_map.2 ⟨l, hl, rfl⟩, by rw [← hng.1]; exact List.mem_map.2 ⟨-l, hl2, rfl⟩⟩
theorem Ren.sort {N : Int} (h0 : 0 ≤ N) (h1 : N ≤ 128) (hn : 0 ≤ n) {c : List Int} (hc : GoodR V c) (hN : ∀ l ∈ c, litOk l N = true) : sortK (c.map (renl p)) n.toNat = (sortK c N.toNat).map (renl p) := by
  have hle := h.le
  have hok : ∀ l ∈ c.map (renl p), litOk l n = true := fun l hl => by
    obtain ⟨x, hx, rfl⟩ := List.mem_map.1 hl
    exact h.ok (hc x hx)
  have hs : GoodR V (sortK c N.toNat) := fun l hl => hc l ((mem_sortK_ok h0 hN l).1 hl)
  refine strict_unique litLt_asymm (sortK_strict _ _ (by omega)) ?_ fun z => ?_
  · refine List.pairwise_map.2 ?_
    refine List.Pairwise.imp_of_mem ?_ (sortK_strict c N.toNat (by omega))
    intro a b ha hb hab
    exact h.lt (hs a ha) (hs b hb) hab
  · rw [mem_sortK_ok hn hok, List.mem_map, List.mem_map]
    constructor
    · rintro ⟨x, hx, rfl⟩; exact ⟨x, (mem_sortK_ok h0 hN x).2 hx, rfl⟩
    · rintro ⟨x, hx, rfl⟩; exact ⟨x, (mem_sortK_ok h0 hN x).1 hx, rfl⟩
theorem Ren.check {N : Int} {L : List (List Int)} (hz : checkT N L = 0) (hn : 0 ≤ n) (hV : ∀ c ∈ L, GoodR V c) : checkT n (L.map fun c => c.map (renl p)) = 0 := by
  obtain ⟨_, _, h2, h3⟩ := checkT_ok hz
  refine checkT_of hn h.le (by simpa using h2) fun z hz => ?_
  obtain ⟨c, hc, rfl⟩ := List.mem_map.1 hz
  refine ⟨by rw [List.length_map]; exact (h3 c hc).1, fun l hl => ?_⟩
  obtain ⟨x, hx, rfl⟩ := List.mem_map.1 hl
  exact h.ok (hV c hc x hx)
theorem Ren.norm {N : Int} {L : List (List Int)} (hz : checkT N L = 0) (hn : 0 ≤ n) (hV : ∀ c ∈ L, GoodR V c) : normL (L.map fun c => c.map (renl p)) = (normL L).map fun c => c.map (renl p) := by
  obtain ⟨h0, h1, _, h3⟩ := checkT_ok hz
  have hz2 := h.check hz hn hV
  have hg : ∀ z ∈ normL L, GoodR V z := fun z hzz => by
    obtain ⟨c, hc, _, rfl⟩ := (normL_mem hz z).1 hzz
    exact fun l hl => hV c hc l ((mem_sortK_ok h0 (h3 c hc).2 l).1 hl)
  refine strict_unique clLt_asymm (normL_strict hz2) ?_ fun z => ?_
  · refine List.pairwise_map.2 (List.Pairwise.imp_of_mem ?_ (normL_strict hz))
    intro a b ha hb hab
    exact h.clLt (hg a ha) (hg b hb) hab
  · rw [normL_mem hz2, List.mem_map]
    constructor
    · rintro ⟨d, hd, h5, rfl⟩
      obtain ⟨c, hc, rfl⟩ := List.mem_map.1 hd
      rw [h.alt h0 hn (hV c hc) (h3 c hc).2] at h5
      exact ⟨sortK c N.toNat, (normL_mem hz _).2 ⟨c, hc, h5, rfl⟩, (h.sort h0 h1 hn (hV c hc) (h3 c hc).2).symm⟩
    · rintro ⟨d, hd, rfl⟩
      obtain ⟨c, hc, h5, rfl⟩ := (normL_mem hz d).1 hd
      exact ⟨c.map (renl p), List.mem_map.2 ⟨c, hc, rfl⟩, by rw [h.alt h0 hn (hV c hc) (h3 c hc).2]; exact h5, (h.sort h0 h1 hn (hV c hc) (h3 c hc).2).symm⟩
end
/-! ### Variables of clauses -/
theorem sHas_varsRow (S : BitVec 128) (c : List Int) (v : Int) : sHas (varsRow S c c.length) v = (sHas S v || (decide (1 ≤ v ∧ v ≤ 128) && c.any fun l => decide (litVar l = v))) := by
  have : ∀ (c : List Int) (S : BitVec 128), sHas (c.foldl (fun s l => sWith s (litVar l)) S) v = (sHas S v || (decide (1 ≤ v ∧ v ≤ 128) && c.any fun l => decide (litVar l = v))) := by
    intro c
    induction c with
    | nil => intro S; simp
    | cons x c ih =>
      intro S
      rw [List.foldl_cons, ih, sHas_with, List.any_cons, Bool.eq_iff_iff]
      simp only [Bool.or_eq_true, Bool.and_eq_true, decide_eq_true_eq]
      constructor
      · rintro ((h | ⟨rfl, h⟩) | ⟨h, h2⟩)
        · exact .inl h
        · exact .inr ⟨h, .inl rfl⟩
        · exact .inr ⟨h, .inr h2⟩
      · rintro (h | ⟨h, rfl | h2⟩)
        · exact .inl (.inl h)
        · exact .inl (.inr ⟨rfl, h⟩)
        · exact .inr ⟨h, h2⟩
  unfold varsRow
  rw [List.take_length]
  exact this c S
theorem sHas_varsT (L : List (List Int)) (v : Int) : sHas (varsT L) v = true ↔ (1 ≤ v ∧ v ≤ 128) ∧ ∃ c ∈ L, ∃ l ∈ c, litVar l = v := by
  have : ∀ (L : List (List Int)) (S : BitVec 128), sHas (L.foldl (fun s c => varsRow s c c.length) S) v = true ↔ sHas S v = true ∨ ((1 ≤ v ∧ v ≤ 128) ∧ ∃ c ∈ L, ∃ l ∈ c, litVar l = v) := by
    intro L
    induction L with
    | nil => intro S; simp
    | cons c L ih =>
      intro S
      rw [List.foldl_cons, ih, sHas_varsRow]
      simp only [Bool.or_eq_true, Bool.and_eq_true, decide_eq_true_eq, List.any_eq_true, List.mem_cons, exists_eq_or_imp]
      constructor
      · rintro ((h | ⟨h, h2⟩) | ⟨h, h2⟩)
        · exact .inl h
        · exact .inr ⟨h, .inl h2⟩
        · exact .inr ⟨h, .inr h2⟩
      · rintro (h | ⟨h, h2 | h2⟩)
        · exact .inl (.inl h)
        · exact .inl (.inr ⟨h, h2⟩)
        · exact .inr ⟨h, h2⟩
  unfold varsT varsK
  rw [List.take_length, this]
  simp [sHas_zero]
/-! ### Small forms -/
def smallN (M : List (List Int)) : List Int := listS (varsT M)
def smallR (names : List Int) (c : List Int) : List Int := c.map (renl (numOf names))
def smallL (M : List (List Int)) : List (List Int) := M.map (smallR (smallN M))
theorem ren_small (s : BitVec 128) : Ren (fun v => sHas s v) (numOf (listS s)) ((listS s).length : Int) := by
  have hN := names_listS s
  refine ⟨fun v hv => sHas_mem hv, fun v hv => ?_, fun v u hv hu hvu => ?_, by have := names_len hN; omega⟩
  · obtain ⟨i, hi, rfl⟩ := mem_getD ((listS_mem s v).2 hv)
    rw [numOf_get hN hi]; omega
  · obtain ⟨i, hi, rfl⟩ := mem_getD ((listS_mem s v).2 hv)
    obtain ⟨j, hj, rfl⟩ := mem_getD ((listS_mem s u).2 hu)
    rw [numOf_get hN hi, numOf_get hN hj]
    have : i < j := by
      rcases Nat.lt_trichotomy i j with h | h | h
      · exact h
      · subst h; omega
      · have := sortedI_get hN.s h hi; omega
    omega
theorem good_vars {N : Int} {M : List (List Int)} (hz : checkT N M = 0) {c : List Int} (hc : c ∈ M) : GoodR (fun v => sHas (varsT M) v) c := fun l hl => by
  obtain ⟨h0, h1, _, h3⟩ := checkT_ok hz
  have := litVar_abs ((h3 c hc).2 l hl)
  exact (sHas_varsT M _).2 ⟨by omega, c, hc, l, hl, rfl⟩
theorem small_check {N : Int} {M : List (List Int)} (hz : checkT N M = 0) : checkT ((smallN M).length : Int) (smallL M) = 0 := (ren_small (varsT M)).check hz (by omega) fun c hc => good_vars hz hc
theorem listS_upto {s : BitVec 128} {n : Nat} (hn : n ≤ 128) (h : ∀ v, sHas s v = decide (1 ≤ v ∧ v ≤ (n : Int))) : listS s = (List.range n).map fun i : Nat => ((i : Int) + 1) := by
  refine strict_unique (lt := (· < · : Int → Int → Prop)) (fun a b h => by omega) (listS_sorted s) (List.pairwise_map.2 (List.pairwise_lt_range.imp fun h => by omega)) fun z => ?_
  rw [listS_mem, h, List.mem_map]
  simp only [decide_eq_true_eq]
  constructor
  · intro hh; exact ⟨(z - 1).toNat, List.mem_range.2 (by omega), by omega⟩
  · rintro ⟨i, hi, rfl⟩; rw [List.mem_range] at hi; omega
theorem small_vars {N : Int} {M : List (List Int)} (hz : checkT N M = 0) (v : Int) : sHas (varsT (smallL M)) v = decide (1 ≤ v ∧ v ≤ ((smallN M).length : Int)) := by
  have hR := ren_small (varsT M)
  have hN := names_listS (varsT M)
  have hln := names_len hN
  rw [Bool.eq_iff_iff, sHas_varsT, decide_eq_true_eq]
  constructor
  · rintro ⟨h1, z, hzz, l, hl, rfl⟩
    obtain ⟨c, hc, rfl⟩ := List.mem_map.1 hzz
    obtain ⟨x, hx, rfl⟩ := List.mem_map.1 hl
    have hg := good_vars hz hc x hx
    unfold smallN
    rw [(hR.lit hg).1]
    exact hR.rng _ hg
  · intro hv
    have hi : (v - 1).toNat < (smallN M).length := by omega
    have hm := (listS_mem _ _).1 (getD_memI hi)
    obtain ⟨_, c, hc, l, hl, e⟩ := (sHas_varsT M _).1 hm
    have hg := good_vars hz hc l hl
    refine ⟨by unfold smallN at hv; omega, c.map (renl (numOf (smallN M))), List.mem_map.2 ⟨c, hc, rfl⟩, renl (numOf (smallN M)) l, List.mem_map.2 ⟨l, hl, rfl⟩, ?_⟩
    show litVar (renl (numOf (listS (varsT M))) l) = v
    rw [(hR.lit hg).1, e]
    have hh := numOf_get hN hi
    show numOf (listS (varsT M)) ((smallN M).getD (v - 1).toNat 0) = v
    unfold smallN at hh hv ⊢
    rw [hh]; omega
theorem small_names {N : Int} {M : List (List Int)} (hz : checkT N M = 0) : smallN (smallL M) = (List.range (smallN M).length).map fun i : Nat => ((i : Int) + 1) :=
  listS_upto (names_len (names_listS _)) (small_vars hz)
theorem small_idem {N : Int} {M : List (List Int)} (hz : checkT N M = 0) : smallL (smallL M) = smallL M := by
  have hz2 := small_check hz
  have hN := names_listS (varsT (smallL M))
  have hnm := small_names hz
  unfold smallL at hnm ⊢
  rw [hnm]
  conv => rhs; rw [← List.map_id (M.map (smallR (smallN M)))]
  apply List.map_congr_left
  intro z hzz
  unfold smallR
  conv => rhs; rw [id, ← List.map_id z]
  apply List.map_congr_left
  intro l hl
  have hg := good_vars hz2 hzz l hl
  have ha := (ren_small (varsT (smallL M))).abs hg
  have hm := (listS_mem _ _).2 hg
  obtain ⟨i, hi, e⟩ := mem_getD hm
  have hnum := numOf_get hN hi
  have hnm2 : listS (varsT (smallL M)) = (List.range (smallN M).length).map fun i : Nat => ((i : Int) + 1) := small_names hz
  rw [e, hnm2] at hnum
  rw [hnm2] at e hi
  rw [List.length_map, List.length_range] at hi
  have e2 : ((List.range (smallN M).length).map fun i : Nat => ((i : Int) + 1)).getD i 0 = (i : Int) + 1 := by simp [List.getD, hi]
  rw [e2] at e
  show renl _ l = l
  unfold renl
  rw [hnum, e, ha.1]
  split <;> omega
theorem small_norm {N : Int} {L : List (List Int)} (hz : checkT N L = 0) : normL (smallL (normL L)) = smallL (normL L) := by
  have hz2 := normL_check hz
  have := (ren_small (varsT (normL L))).norm hz2 (by omega) fun c hc => good_vars hz2 hc
  unfold smallL smallR smallN
  rw [this, normL_idem hz]
/-! ### Keys -/
def litByte (l : Int) : Int := if l < 0 then 127 - l else l - 1
def keyL (U : List (List Int)) : List Int := U.flatMap fun c => (c.length : Int) :: c.map litByte
theorem litByte_inj {x y : Int} (hx : litVar x ≠ 0) (hy : litVar y ≠ 0) (e : litByte x = litByte y) : x = y := by
  have h1 : ∀ z, litVar z ≠ 0 → -128 ≤ z ∧ z ≤ 128 ∧ z ≠ 0 := fun z hz => by
    refine ⟨?_, ?_, ?_⟩ <;> (apply Decidable.byContradiction; intro hh; exact hz (litVar_no (by omega)))
  have := h1 x hx
  have := h1 y hy
  unfold litByte at e
  split at e <;> split at e <;> omega
theorem map_inj_on {f : Int → Int} : ∀ {c d : List Int}, (∀ x ∈ c, ∀ y ∈ d, f x = f y → x = y) → c.map f = d.map f → c = d
  | [], [], _, _ => rfl
  | [], _ :: _, _, h => by simp at h
  | _ :: _, [], _, h => by simp at h
  | x :: c, y :: d, hi, h => by
    rw [List.map_cons, List.map_cons, List.cons.injEq] at h
    rw [hi x List.mem_cons_self y List.mem_cons_self h.1, map_inj_on (fun a ha b hb => hi a (List.mem_cons_of_mem _ ha) b (List.mem_cons_of_mem _ hb)) h.2]
theorem keyL_inj : ∀ {U W : List (List Int)}, (∀ c ∈ U, ∀ l ∈ c, litVar l ≠ 0) → (∀ c ∈ W, ∀ l ∈ c, litVar l ≠ 0) → keyL U = keyL W → U = W
  | [], [], _, _, _ => rfl
  | [], _ :: _, _, _, h => by simp [keyL] at h
  | _ :: _, [], _, _, h => by simp [keyL] at h
  | c :: U, d :: W, hU, hW, h => by
    unfold keyL at h
    rw [List.flatMap_cons, List.flatMap_cons, List.cons_append, List.cons_append, List.cons.injEq] at h
    obtain ⟨h1, h2⟩ := h
    obtain ⟨h3, h4⟩ := List.append_inj h2 (by simp; omega)
    have e := map_inj_on (fun x hx y hy => litByte_inj (hU c List.mem_cons_self x hx) (hW d List.mem_cons_self y hy)) h3
    rw [e, keyL_inj (fun c hc => hU c (List.mem_cons_of_mem _ hc)) (fun c hc => hW c (List.mem_cons_of_mem _ hc)) h4]
end Go.Proofs.YtafikekndefjcaaDoor
