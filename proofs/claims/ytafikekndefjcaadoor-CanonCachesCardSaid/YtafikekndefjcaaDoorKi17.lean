/- The entries of the law Kept (plain); no condition. -/
import Derived.Test.YtafikekndefjcaaDoorKh17
namespace Go.Proofs.YtafikekndefjcaaDoor
set_option linter.unusedVariables false
set_option linter.unusedSimpArgs false
set_option linter.unusedSectionVars false
open Go.RowKit
set_option maxRecDepth 100000
def enK (lens : List Int) (i : Nat) : List Int × Int := (kyK lens i, 1000 + (i : Int))
def entsK (lens : List Int) (k : Nat) : List (List Int × Int) := (List.range k).map (enK lens)
def esK (lens : List Int) (M : Int) (k : Nat) : List (List Int × Int) := (entsK lens k).foldl (putZ M.toNat) []
theorem esK_succ (lens : List Int) (M : Int) (k : Nat) : esK lens M (k + 1) = putZ M.toNat (esK lens M k) (enK lens k) := by
  unfold esK entsK
  rw [List.range_succ, List.map_append, List.foldl_append]
  rfl
theorem entsK_pair (lens : List Int) (k : Nat) : (entsK lens k).Pairwise fun a b => a.1 ≠ b.1 := by
  unfold entsK
  rw [List.pairwise_map]
  refine List.Pairwise.imp ?_ (List.nodup_range (n := k))
  intro a b hab e
  unfold enK kyK at e
  rw [List.cons.injEq] at e
  exact hab (by omega)
def fitK (M : Int) (e : List Int × Int) : Bool := decide (entZ e ≤ M.toNat)
theorem esK_eq (lens : List Int) (M : Int) (k : Nat) : esK lens M k = dropZ M.toNat ((entsK lens k).filter (fitK M)) := by
  have h := puts_drop (most := M.toNat) (entsK lens k) [] (by rw [List.nil_append]; exact entsK_pair lens k)
  rw [List.nil_append] at h
  exact h
def bhK (lens : List Int) (M : Int) (n k : Nat) : List (List Int × Int) := ((entsK lens n).drop k).filter (fitK M)
theorem entsK_len (lens : List Int) (k : Nat) : (entsK lens k).length = k := by unfold entsK; simp
theorem entsK_get (lens : List Int) {k i : Nat} (h : i < k) : (entsK lens k)[i]'(by rw [entsK_len]; exact h) = enK lens i := by unfold entsK; simp
theorem bhK_end (lens : List Int) (M : Int) (n : Nat) : bhK lens M n n = [] := by unfold bhK; rw [List.drop_of_length_le (by rw [entsK_len]; exact Nat.le_refl _)]; rfl
theorem bhK_step (lens : List Int) (M : Int) {n i : Nat} (h : i < n) : bhK lens M n i = if fitK M (enK lens i) = true then enK lens i :: bhK lens M n (i + 1) else bhK lens M n (i + 1) := by
  unfold bhK
  rw [List.drop_eq_getElem_cons (by rw [entsK_len]; exact h), entsK_get lens h, List.filter_cons]
theorem enK_ne (lens : List Int) {i j : Nat} (h : i ≠ j) : (enK lens i).1 ≠ (enK lens j).1 := by
  unfold enK kyK
  intro e
  rw [List.cons.injEq] at e
  exact h (by omega)
theorem mem_bhK {lens : List Int} {M : Int} {n k : Nat} {e : List Int × Int} (h : e ∈ bhK lens M n k) : ∃ j, k ≤ j ∧ j < n ∧ e = enK lens j := by
  unfold bhK at h
  obtain ⟨h1, _⟩ := List.mem_filter.1 h
  obtain ⟨j, hj, rfl⟩ := List.getElem_of_mem h1
  rw [List.length_drop, entsK_len] at hj
  exact ⟨k + j, by omega, by omega, by rw [List.getElem_drop, entsK_get lens (by omega)]⟩
theorem getK_no {lens : List Int} {M : Int} {n i : Nat} (hi : i < n) (hf : fitK M (enK lens i) = false) : getZ (esK lens M n) (kyK lens i) = none := by
  rw [esK_eq]
  refine kept_no fun x hx => ?_
  obtain ⟨h1, h2⟩ := List.mem_filter.1 hx
  obtain ⟨j, hj, rfl⟩ := List.getElem_of_mem h1
  rw [entsK_len] at hj
  rw [entsK_get lens hj] at h2 ⊢
  exact enK_ne lens fun e => by rw [e, hf] at h2; cases h2
theorem getK_yes {lens : List Int} {M : Int} {n i : Nat} (hi : i < n) (hf : fitK M (enK lens i) = true) : getZ (esK lens M n) (kyK lens i) = if useZ (bhK lens M n i) ≤ M.toNat then some (1000 + (i : Int)) else none := by
  have h1 : (entsK lens n).filter (fitK M) = ((entsK lens n).take i).filter (fitK M) ++ bhK lens M n i := by
    unfold bhK
    rw [← List.filter_append, List.take_append_drop]
  have h2 := bhK_step lens M hi
  rw [if_pos hf] at h2
  rw [esK_eq, h1, h2]
  have hp := (entsK_pair lens n).filter (fitK M)
  rw [h1, h2] at hp
  exact kept hp
theorem manyK {lens : List Int} {M : Int} {n i : Nat} (hi : i < n) (hf : fitK M (enK lens i) = true) : (dropZ M.toNat (bhK lens M n i)).length = if useZ (bhK lens M n i) ≤ M.toNat then (dropZ M.toNat (bhK lens M n (i + 1))).length + 1 else (dropZ M.toNat (bhK lens M n (i + 1))).length := by
  have h2 := bhK_step lens M hi
  rw [if_pos hf] at h2
  have hu : useZ (bhK lens M n i) = entZ (enK lens i) + useZ (bhK lens M n (i + 1)) := by rw [h2, use_cons]
  by_cases h : useZ (bhK lens M n i) ≤ M.toNat
  · rw [if_pos h, drop_all h, drop_all (by omega), h2, List.length_cons]
  · rw [if_neg h]
    have h3 : dropZ M.toNat (bhK lens M n i) = dropZ M.toNat (bhK lens M n (i + 1)) := by
      rw [h2] at h ⊢
      rw [dropZ, if_pos (by omega)]
    rw [h3]
theorem useK {lens : List Int} {M : Int} {n i : Nat} (hi : i < n) (hf : fitK M (enK lens i) = true) : useZ (bhK lens M n i) = (kyK lens i).length + 16 + useZ (bhK lens M n (i + 1)) := by
  have h2 := bhK_step lens M hi
  rw [if_pos hf] at h2
  rw [h2, use_cons]
  rfl
theorem kyK_len (lens : List Int) (i : Nat) : (kyK lens i).length ≤ 100 := by
  unfold kyK zlK
  simp
  omega
theorem kyK_okB (lens : List Int) {i : Nat} (h : i < 256) : okB (kyK lens i) = true := by
  unfold kyK okB
  rw [List.all_eq_true]
  intro x hx
  rcases List.mem_cons.1 hx with rfl | hx
  · rw [Bool.and_eq_true, decide_eq_true_eq, decide_eq_true_eq]; omega
  · rw [(List.mem_replicate.1 hx).2]; rfl
theorem bhK_use (lens : List Int) (M : Int) {n k : Nat} (h : k ≤ n) : useZ (bhK lens M n k) ≤ 116 * (n - k) := by
  obtain ⟨d, hd⟩ : ∃ d, n - k = d := ⟨_, rfl⟩
  induction d generalizing k with
  | zero =>
    obtain rfl : k = n := by omega
    rw [bhK_end]
    show useZ ([] : List (List Int × Int)) ≤ _
    exact Nat.zero_le _
  | succ d ih =>
    have h1 := ih (k := k + 1) (by omega) (by omega)
    have h2 := bhK_step lens M (show k < n by omega)
    have h3 := kyK_len lens k
    split at h2
    · rw [h2, use_cons]
      have : entZ (enK lens k) = (kyK lens k).length + 16 := rfl
      omega
    · rw [h2]; omega
structure KpI (M : Int) (lens : List Int) (k : Nat) (O : List (Nat × AObj)) (I : List Nat) (nm : Nat → Nat) (bd : Nat) : Prop where
  ca : CacheAt O I 3 1 nm M (esK lens M k)
  bx : lk O 0 = some ⟨34, 1, [[aB lens]]⟩
  bo : OutC 3 1 nm (esK lens M k).length 0
  bi : 0 ∈ I
  bd : ∀ q ∈ I, q < bd
theorem KpI.key {M : Int} {lens : List Int} {k : Nat} {O O1 : List (Nat × AObj)} {I I1 : List Nat} {nm : Nat → Nat} {bd : Nat} (h : KpI M lens k O I nm bd) (h1 : ∀ q ∈ I1, q = bd ∨ q = bd + 1 ∨ q ∈ I) (h2 : ∀ q ∈ I, q ∈ I1) (h3 : ∀ q, q ≠ bd → q ≠ bd + 1 → lk O1 q = lk O q) : KpI M lens k O1 I1 nm (bd + 2) := by
  have hO : ∀ q ∈ I, lk O1 q = lk O q := fun q hq => by
    have := h.bd q hq
    exact h3 q (by omega) (by omega)
  refine ⟨h.ca.mono hO h2, by rw [hO 0 h.bi]; exact h.bx, h.bo, h2 _ h.bi, fun q hq => ?_⟩
  rcases h1 q hq with e | e | e
  · omega
  · omega
  · have := h.bd q e; omega
theorem KpI.out {M : Int} {lens : List Int} {k : Nat} {O : List (Nat × AObj)} {I : List Nat} {nm : Nat → Nat} {bd r : Nat} (h : KpI M lens k O I nm bd) (hr : bd ≤ r) : OutC 3 1 nm (esK lens M k).length r :=
  ⟨fun e => by have := h.bd _ h.ca.ic; omega, fun e => by have := h.bd _ h.ca.im; omega, fun t ht e => by have := h.bd _ (h.ca.inn t ht); omega⟩
theorem KpI.put {M : Int} {lens : List Int} {k x : Nat} {O O3 : List (Nat × AObj)} {I : List Nat} {nm nm' : Nat → Nat} {bd : Nat} (h : KpI M lens k O I nm bd) (hx : bd ≤ x) (hs : (kyK lens k).length + 16 ≤ M.toNat)
    (h1 : CacheAt O3 (x :: I) 3 1 nm' M (dropZ (M.toNat - ((kyK lens k).length + 16)) ((esK lens M k).filter fun x => decide (x.1 ≠ kyK lens k)) ++ [(kyK lens k, 1000 + (k : Int))]))
    (h2 : ∀ j, j ≤ (dropZ (M.toNat - ((kyK lens k).length + 16)) ((esK lens M k).filter fun x => decide (x.1 ≠ kyK lens k)) ++ [(kyK lens k, 1000 + (k : Int))]).length → nm' j = x ∨ ∃ t, t ≤ (esK lens M k).length ∧ nm' j = nm t)
    (h3 : ∀ q, OutC 3 1 nm (esK lens M k).length q → q ≠ x → lk O3 q = lk O q) : KpI M lens (k + 1) O3 (x :: I) nm' (x + 1) := by
  have he : esK lens M (k + 1) = dropZ (M.toNat - ((kyK lens k).length + 16)) ((esK lens M k).filter fun x => decide (x.1 ≠ kyK lens k)) ++ [(kyK lens k, 1000 + (k : Int))] := by
    rw [esK_succ]
    unfold putZ
    rw [if_neg (by show ¬ entZ (enK lens k) > M.toNat; have : entZ (enK lens k) = (kyK lens k).length + 16 := rfl; omega)]
    rfl
  have h0 := h.bd 0 h.bi
  refine ⟨by rw [he]; exact h1, ?_, ⟨by decide, by decide, fun t ht e => ?_⟩, List.mem_cons_of_mem _ h.bi, fun q hq => ?_⟩
  · rw [h3 0 h.bo (by omega)]; exact h.bx
  · rw [he] at ht
    rcases h2 t ht with e2 | ⟨u, u1, u2⟩
    · omega
    · exact h.bo.2.2 u u1 (e.trans u2)
  · rcases List.mem_cons.1 hq with rfl | hq
    · omega
    · have := h.bd q hq; omega
theorem KpI.same {M : Int} {lens : List Int} {k : Nat} {O : List (Nat × AObj)} {I : List Nat} {nm : Nat → Nat} {bd : Nat} (h : KpI M lens k O I nm bd) (hs : M.toNat < (kyK lens k).length + 16) : KpI M lens (k + 1) O I nm bd := by
  have he : esK lens M (k + 1) = esK lens M k := by
    rw [esK_succ]
    unfold putZ
    rw [if_pos (by show entZ (enK lens k) > M.toNat; have : entZ (enK lens k) = (kyK lens k).length + 16 := rfl; omega)]
  exact ⟨by rw [he]; exact h.ca, h.bx, by rw [he]; exact h.bo, h.bi, h.bd⟩
@[simp] def g_works17 : List AV → Option (AV × Bool)
  | [] => if (true) = true then some (.v (.bool true), false) else none
  | _ => none
theorem e_works17 : EntOk Tryd.prog 13 g_works17 := ent_pure (by kernel_rfl) fun args r fr h => by
  unfold g_works17 at h
  split at h
  · split at h
    · rename_i hc
      cases h
      exact ⟨FnPure.cov (works_p) .nil, rfl⟩
    · cases h
  · cases h

def lKv : List (FuncId × (List AV → Option (AV × Bool))) := (13, g_works17) :: []
theorem lKv_ok : ∀ p ∈ lKv, EntOk Tryd.prog p.1 p.2 := ent_cons e_works17 (ent_nil)
def PTv : PTab := tab lKv
theorem PTv_ok : PTok Tryd.prog PTv := tab_ok lKv_ok
@[simp] theorem PTv_works : PTv 13 = g_works17 := rfl
end Go.Proofs.YtafikekndefjcaaDoor
