/- A reason is enough, and no reason is in another one (plain); no condition. -/
import Derived.Test.YtecdhmiamlgibaaDoorPw39
namespace Go.Proofs.YtecdhmiamlgibaaDoor
set_option linter.unusedVariables false
set_option linter.unusedSimpArgs false
set_option linter.unusedSectionVars false
open Go.RowKit
set_option maxRecDepth 100000
def Cons (xs : List Int) : Prop := ∀ u ∈ xs, -u ∉ xs
theorem holdL_has : ∀ (xs : List Int) (b : BitVec 128), LitsX xs → Cons xs → ∀ {u : Int}, 1 ≤ u → u ≤ 128 → sHas (holdL xs b) u = if u ∈ xs then true else if -u ∈ xs then false else sHas b u
  | [], b, _, _, u, _, _ => by simp [holdL]
  | l :: r, b, hx, hc, u, h1, h2 => by
    have ih := holdL_has r (holdS b l) (fun y hy => hx y (by simp [hy])) (fun y hy h => hc y (by simp [hy]) (by simp [h])) h1 h2
    rw [show holdL (l :: r) b = holdL r (holdS b l) from rfl, ih]
    have hl := litX_b (hx l (by simp))
    by_cases m1 : u ∈ r
    · rw [if_pos m1, if_pos (by simp [m1])]
    · rw [if_neg m1]
      by_cases m2 : -u ∈ r
      · rw [if_pos m2]
        have hn : u ∉ l :: r := fun h => hc u h (by simp [m2])
        rw [if_neg hn, if_pos (by simp [m2])]
      · rw [if_neg m2]
        unfold holdS
        by_cases e : u = l
        · subst e
          rw [if_pos (by omega), sHas_with, if_pos (by simp)]
          simp [h1, h2]
        · by_cases e2 : -u = l
          · subst e2
            rw [if_neg (by omega), sHas_without, if_neg (by simp [e, m1]), if_pos (by simp)]
            simp
          · have n1 : u ∉ l :: r := by simp [e, m1]
            have n2 : -u ∉ l :: r := by simp [e2, m2]
            rw [if_neg n1, if_neg n2]
            split
            · rw [sHas_with, decide_eq_false (fun h => e h.1), Bool.or_false]
            · rw [sHas_without, decide_eq_false (fun h => e2 (by omega))]; simp
theorem term_cons {vs : List Int} (h : okVs vs) (x P : Nat) : Cons (termL vs x P) := fun u hu hn => by
  obtain ⟨i, hi, _, h1⟩ := term_mem.1 hu
  obtain ⟨j, hj, _, h2⟩ := term_mem.1 hn
  have e : absZ (sgn vs x i) = absZ (sgn vs x j) := by rw [← h1, ← h2]; unfold absZ; omega
  have := sgn_inj h hi hj e
  subst this
  have hv := sgn_abs (x := x) h hi
  have hp := h.2 _ (gmemI hi)
  rw [← h1] at h2 hv
  unfold absZ at hv
  omega
theorem enough {N : Int} {ns : List Nd} {a : BitVec 128} (h : validN N ns = true) (h16 : (matL ns).length ≤ 16) {r : List Int} (hr : r ∈ reaX ns a) (b : BitVec 128) : evalN N ns (holdL r b) = evalN N ns a := by
  obtain ⟨hvs, _⟩ := okV_vs (matL_ok h16)
  obtain ⟨P, h1, h2, rfl⟩ := reaX_mem.1 hr
  unfold evalN
  rw [h, Bool.true_and, Bool.true_and, tab_eval h h16, tab_eval h h16]
  have hno := least_no h2
  have hy := idxN_lt (matL ns) (holdL (termL (matL ns) (idxN (matL ns) a) P) b)
  have hx := idxN_lt (matL ns) a
  have hbit : ∀ i, P.testBit i = true → (idxN (matL ns) (holdL (termL (matL ns) (idxN (matL ns) a) P) b)).testBit i = (idxN (matL ns) a).testBit i := fun i hi => by
    have hin := bit_hi h1 hi
    have hv := hvs.2 _ (gmemI hin)
    rw [idx_bit hvs _ hin, holdL_has _ _ (term_lits hvs _ P) (term_cons hvs _ P) hv.1 hv.2]
    have hm : sgn (matL ns) (idxN (matL ns) a) i ∈ termL (matL ns) (idxN (matL ns) a) P := term_mem.2 ⟨i, hin, hi, rfl⟩
    have hcn := term_cons hvs (idxN (matL ns) a) P _ hm
    unfold sgn at hm hcn
    split at hm
    · rename_i e; rw [if_pos hm, e]
    · rename_i e
      rw [if_neg e, Int.neg_neg] at hcn
      rw [if_neg hcn, if_pos hm]
      rw [Bool.not_eq_true] at e; exact e.symm
  generalize idxN (matL ns) (holdL (termL (matL ns) (idxN (matL ns) a) P) b) = y at hy hbit ⊢
  generalize idxN (matL ns) a = x at hno hx hbit ⊢
  cases hq : decide (tabF ns y = tabF ns x) with
  | true => exact of_decide_eq_true hq
  | false =>
    exfalso
    have hne := of_decide_eq_false hq
    have := (chg_iff (f := tabF ns) (at0 := x) (cmpl_lt h1)).2 ⟨x ^^^ y, fun p hp => ?_, by rw [← Nat.xor_assoc, Nat.xor_self, Nat.zero_xor]; exact hne⟩
    · rw [hno] at this; cases this
    · rw [cmpl_bit]
      have hpn : p < (matL ns).length := bit_hi (Nat.xor_lt_two_pow hx hy) hp
      rw [decide_eq_true hpn]
      cases hP : P.testBit p with
      | false => rfl
      | true => rw [Nat.testBit_xor, hbit p hP] at hp; simp at hp
def cutL (r : List Int) (k : Nat) : List Int := r.take k ++ r.drop (k + 1)
theorem mem_cutL {r : List Int} {k : Nat} (hk : k < r.length) {u : Int} (hu : u ∈ cutL r k) : u ∈ r := by
  unfold cutL at hu
  rcases List.mem_append.1 hu with h | h
  · exact List.mem_of_mem_take h
  · exact List.mem_of_mem_drop h
theorem cutL_len {r : List Int} {k : Nat} (hk : k < r.length) : (cutL r k).length + 1 = r.length := by
  unfold cutL; rw [List.length_append, List.length_take, List.length_drop]; omega
theorem cutL_not {r : List Int} (hn : r.Nodup) {k : Nat} (hk : k < r.length) : r.getD k 0 ∉ cutL r k := by
  unfold cutL
  rw [List.getD_eq_getElem?_getD, List.getElem?_eq_getElem hk, Option.getD_some, List.mem_append]
  rintro (h | h)
  · obtain ⟨i, hi, e⟩ := List.mem_iff_getElem.1 h
    rw [List.length_take] at hi
    rw [List.getElem_take] at e
    exact List.pairwise_iff_getElem.1 hn i k (by omega) hk (by omega) e
  · obtain ⟨i, hi, e⟩ := List.mem_iff_getElem.1 h
    rw [List.getElem_drop] at e
    rw [List.length_drop] at hi
    exact List.pairwise_iff_getElem.1 hn k (k + 1 + i) hk (by omega) (by omega) e.symm
theorem cutL_lits {r : List Int} {k : Nat} (hk : k < r.length) (h : LitsX r) : LitsX (cutL r k) := fun u hu => h u (mem_cutL hk hu)
theorem cutL_ok {r : List Int} {k : Nat} (hk : k < r.length) (h : okInts r = true) : okInts (cutL r k) = true := by
  unfold okInts at h ⊢
  rw [Bool.and_eq_true, decide_eq_true_eq, List.all_eq_true] at h ⊢
  have := cutL_len hk
  exact ⟨fun u hu => h.1 u (mem_cutL hk hu), by omega⟩
theorem abs_lits {r : List Int} (h : LitsX r) : LitsX (absL r) := fun u hu => by
  obtain ⟨y, hy, rfl⟩ := List.mem_map.1 hu
  have := litX_b (h y hy)
  unfold litX absZ
  rw [Bool.and_eq_true, decide_eq_true_eq, decide_eq_true_eq]
  omega
theorem abs_ok {xs : List Int} (h : okInts xs = true) (hx : LitsX xs) : okInts (absL xs) = true := by
  have hl := okInts_len h
  unfold okInts
  rw [Bool.and_eq_true, decide_eq_true_eq, List.all_eq_true]
  refine ⟨fun l hm => ?_, by rw [absL_len]; omega⟩
  obtain ⟨y, hy, rfl⟩ := List.mem_map.1 hm
  have := litX_b (hx y hy)
  unfold absZ
  exact okI_iff.2 ⟨by omega, by omega⟩
theorem less_bias {N : Int} {ns : List Nd} {a : BitVec 128} (h : validN N ns = true) (h16 : (matL ns).length ≤ 16) {r : List Int} (hr : r ∈ reaX ns a) {k : Nat} (hk : k < r.length) : biasB ns a (sAll N &&& ~~~ (holdL (absL (cutL r k)) 0#128)) = true := by
  obtain ⟨hvs, _⟩ := okV_vs (matL_ok h16)
  obtain ⟨P, h1, h2, rfl⟩ := reaX_mem.1 hr
  have hlx := term_lits hvs (idxN (matL ns) a) P
  have hnd : (termL (matL ns) (idxN (matL ns) a) P).Nodup := (term_sorted _ _ (fun v hv => (hvs.2 v hv).1) (listS_sorted _)).imp fun h e => by rw [e] at h; omega
  have hnot := cutL_not hnd hk
  have hmem : (termL (matL ns) (idxN (matL ns) a) P).getD k 0 ∈ termL (matL ns) (idxN (matL ns) a) P := gmemI hk
  obtain ⟨i, hi, hb, he⟩ := term_mem.1 hmem
  have hsub : ∀ u, u ∈ absL (cutL (termL (matL ns) (idxN (matL ns) a) P) k) → ∃ j, j < (matL ns).length ∧ P.testBit j = true ∧ j ≠ i ∧ u = (matL ns).getD j 0 := fun u hu => by
    obtain ⟨y, hy, rfl⟩ := List.mem_map.1 hu
    obtain ⟨j, hj, hbj, rfl⟩ := term_mem.1 (mem_cutL hk hy)
    refine ⟨j, hj, hbj, fun e => ?_, sgn_abs hvs hj⟩
    subst e
    rw [← he] at hy
    exact hnot hy
  have habs := abs_lits (cutL_lits hk hlx)
  have hpos : ∀ u ∈ absL (cutL (termL (matL ns) (idxN (matL ns) a) P) k), 1 ≤ u := fun u hu => by
    obtain ⟨j, hj, _, _, rfl⟩ := hsub u hu
    exact (hvs.2 _ (gmemI hj)).1
  have hcons : Cons (absL (cutL (termL (matL ns) (idxN (matL ns) a) P) k)) := fun u hu hn => by
    have h3 := hpos u hu
    have h4 := hpos (-u) hn
    omega
  unfold biasB
  refine chg_mono (or_lt (cmpl_lt h1) hi) (idxN_lt _ _) (fun p hp => ?_) (least_bit h1 h2 hb)
  have hpn : p < (matL ns).length := bit_hi (or_lt (cmpl_lt h1) hi) hp
  have hv := hvs.2 _ (gmemI hpn)
  have hle := mat_le h (gmemI hpn)
  rw [idx_bit hvs _ hpn, sHas_and, sHas_not _ _ hv.1 hv.2, sHas_all, decide_eq_true ⟨hv.1, hle, hv.2⟩, Bool.true_and, holdL_has _ _ habs hcons hv.1 hv.2]
  have hn1 : (matL ns).getD p 0 ∉ absL (cutL (termL (matL ns) (idxN (matL ns) a) P) k) := fun hu => by
    obtain ⟨j, hj, hbj, hne, e⟩ := hsub _ hu
    have := nodup_get hvs.1 hpn hj e
    subst this
    rw [Nat.testBit_or, cmpl_bit, decide_eq_true hpn, hbj, Nat.testBit_two_pow, decide_eq_false (fun e => hne e.symm)] at hp
    simp at hp
  rw [if_neg hn1, sHas_zero]
  simp
theorem term_inj {vs : List Int} (h : okVs vs) {x P Q : Nat} (hP : P < 2 ^ vs.length) (hs : ∀ l, l ∈ termL vs x P → l ∈ termL vs x Q) : ∀ p, P.testBit p = true → Q.testBit p = true := fun p hp => by
  have hpn := bit_hi hP hp
  obtain ⟨j, hj, hb, e⟩ := term_mem.1 (hs _ (term_mem.2 ⟨p, hpn, hp, rfl⟩))
  have := sgn_inj h hpn hj (by rw [e])
  subst this
  exact hb
theorem reaX_nodup {ns : List Nd} (a : BitVec 128) (h16 : (matL ns).length ≤ 16) : (reaX ns a).Nodup := by
  obtain ⟨hvs, _⟩ := okV_vs (matL_ok h16)
  refine (sortX_perm _).nodup_iff.2 ?_
  unfold reaL
  refine (List.pairwise_map.2 ?_)
  have h1 : ((List.range (2 ^ (matL ns).length)).filter (leastB (tabF ns) (matL ns).length (idxN (matL ns) a))).Pairwise (· < ·) := List.Pairwise.filter _ List.pairwise_lt_range
  refine h1.imp_of_mem fun {P Q} hP hQ hlt e => ?_
  have p1 := List.mem_range.1 (List.mem_filter.1 hP).1
  have q1 := List.mem_range.1 (List.mem_filter.1 hQ).1
  have := Nat.eq_of_testBit_eq (x := P) (y := Q) fun p => by
    rw [Bool.eq_iff_iff]
    exact ⟨term_inj hvs p1 (fun l hl => by rw [← e]; exact hl) p, term_inj hvs q1 (fun l hl => by rw [e]; exact hl) p⟩
  omega
theorem reaX_apart {ns : List Nd} {a : BitVec 128} (h16 : (matL ns).length ≤ 16) {c d : List Int} (hc : c ∈ reaX ns a) (hd : d ∈ reaX ns a) (hne : c ≠ d) : inB c d = false := by
  obtain ⟨hvs, _⟩ := okV_vs (matL_ok h16)
  obtain ⟨P, p1, p2, rfl⟩ := reaX_mem.1 hc
  obtain ⟨Q, q1, q2, rfl⟩ := reaX_mem.1 hd
  cases hi : inB (termL (matL ns) (idxN (matL ns) a) P) (termL (matL ns) (idxN (matL ns) a) Q) with
  | false => rfl
  | true =>
    exfalso
    unfold inB at hi
    rw [List.all_eq_true] at hi
    exact hne (by rw [least_anti p1 q1 p2 q2 (term_inj hvs p1 fun l hl => memB_iff.1 (hi l hl))])
theorem reaX_some (ns : List Nd) (a : BitVec 128) : 0 < (reaX ns a).length := by
  have hp := Nat.two_pow_pos (matL ns).length
  have e : cmpl (matL ns).length (2 ^ (matL ns).length - 1) = 0 := by unfold cmpl; exact Nat.xor_self _
  obtain ⟨Q, h1, h2, _⟩ := least_ex (f := tabF ns) (n := (matL ns).length) (at0 := idxN (matL ns) a) (2 ^ (matL ns).length - 1) (by omega) (by rw [e]; exact chg_zero _ _ _)
  exact List.length_pos_of_mem (reaX_mem.2 ⟨Q, h1, h2, rfl⟩)
end Go.Proofs.YtecdhmiamlgibaaDoor
