/- drop, and what a cache holds behind it; plain laws of Put; no condition. -/
import Derived.Test.YtafikekndefjcaaDoorKd17
namespace Go.Proofs.YtafikekndefjcaaDoor
set_option linter.unusedVariables false
set_option linter.unusedSimpArgs false
set_option linter.unusedSectionVars false
open Go.RowKit
set_option maxRecDepth 100000
theorem drop_proc {O : List (Nat × AObj)} {I : List Nat} {c m i : Nat} {nm : Nat → Nat} {most : Int} {es : List (List Int × Int)} (h : CacheAt O I c m nm most es) (h1 : 1 ≤ i) (h2 : i ≤ es.length) :
    ProcB Tryd.prog TT Go.Proofs.Tryd.f45 [.ptr c 0 0, .ptr (nm i) 0 0] O I (fun av O' I' => av = .tup [] ∧ I' = I ∧ CacheAt O' I c m (wo nm i) most (es.eraseIdx (i - 1)) ∧ ∀ k, k ≠ c → k ≠ m → (∀ t, t ≤ es.length → k ≠ nm t) → lk O' k = lk O k) := by
  refine (drop_raw h h1 h2).mono fun av O' I' hK => ?_
  obtain ⟨a1, a2, O1, R1, F1, rfl⟩ := hK
  have hlen : (es.eraseIdx (i - 1)).length = es.length - 1 := List.length_eraseIdx_of_lt (by omega)
  have h0 : wo nm i 0 = nm 0 := by unfold wo; rw [if_pos (by omega)]
  have hne : ∀ j, j ≤ es.length - 1 → wo nm i j ≠ c ∧ wo nm i j ≠ m := fun j hj => by
    obtain ⟨t, t1, _, t2⟩ := wo_mem (nm := nm) h1 h2 hj
    rw [t2]; exact h.cn t t1
  have hsub := List.eraseIdx_sublist es (i - 1)
  have hu := use_erase es (i := i - 1) (by omega)
  refine ⟨a1, a2, ⟨?_, ?_, ?_, h.cm, fun j hj => hne j (by omega), h.ic, h.im, fun j hj => ?_, h.keys.sublist hsub, fun e he => h.ok e (hsub.subset he), ?_, h.big⟩, fun k k1 k2 k3 => ?_⟩
  · rw [lk_st, if_pos rfl, h0]
  · rw [lk_st, if_neg h.cm, lk_st, if_pos rfl, mpR_erase nm es nm (i - 1) (by omega), show i - 1 + 1 = i by omega]
    rfl
  · rw [hlen]
    refine RingAt.mono (O := O1) (R1.congr fun j hj => enZ_erase es h1 h2 hj) fun j hj => ?_
    obtain ⟨n1, n2⟩ := hne j hj
    rw [lk_st, if_neg (Ne.symm n1), lk_st, if_neg (Ne.symm n2)]
  · obtain ⟨t, t1, _, t2⟩ := wo_mem (nm := nm) h1 h2 (by omega : j ≤ es.length - 1)
    rw [t2]; exact h.inn t t1
  · have := h.room
    omega
  · rw [lk_st, if_neg (Ne.symm k1), lk_st, if_neg (Ne.symm k2)]
    exact F1 k fun t ht _ => k3 t ht
/-! ### Plain laws of Put -/
theorem atZ_none {es : List (List Int × Int)} {k : List Int} (h : atZ es k = none) : es.filter (fun x => decide (x.1 ≠ k)) = es := by
  unfold atZ at h
  rw [List.findIdx?_eq_none_iff] at h
  refine List.filter_eq_self.2 fun x hx => ?_
  have := h x hx
  simp only [decide_eq_false_iff_not] at this
  exact decide_eq_true fun e => this e.symm
theorem atZ_some : ∀ {es : List (List Int × Int)} {k : List Int} {j : Nat}, es.Pairwise (fun a b => a.1 ≠ b.1) → atZ es k = some j → j < es.length ∧ es.filter (fun x => decide (x.1 ≠ k)) = es.eraseIdx j
  | [], _, _, _, h => by cases h
  | e :: es, k, j, hp, h => by
    obtain ⟨h1, h2⟩ := List.pairwise_cons.1 hp
    unfold atZ at h
    rw [List.findIdx?_cons] at h
    by_cases he : k = e.1
    · rw [decide_eq_true he] at h
      simp at h
      subst h
      rw [List.filter_cons, if_neg (by simp [he]), List.eraseIdx_cons_zero]
      exact ⟨by simp, List.filter_eq_self.2 fun x hx => decide_eq_true fun hx2 => h1 x hx (by rw [hx2, he])⟩
    · rw [decide_eq_false he] at h
      cases hj : es.findIdx? fun e => decide (k = e.1) with
      | none => rw [hj] at h; simp at h
      | some i =>
        rw [hj] at h
        simp at h
        subst h
        obtain ⟨g1, g2⟩ := atZ_some h2 (k := k) (j := i) hj
        rw [List.filter_cons, if_pos (by simpa using fun hh => he hh.symm), List.eraseIdx_cons_succ, g2]
        exact ⟨by simp; omega, rfl⟩
theorem atZ_no {es : List (List Int × Int)} {k : List Int} (h : ∀ e ∈ es, e.1 ≠ k) : atZ es k = none := by
  unfold atZ
  rw [List.findIdx?_eq_none_iff]
  intro e he
  exact decide_eq_false fun hh => h e he hh.symm
theorem enZ_snoc (es : List (List Int × Int)) (e : List Int × Int) {j : Nat} (hj : j ≤ es.length + 1) : wi (enZ es) es.length e j = enZ (es ++ [e]) j := by
  unfold wi enZ
  by_cases h1 : j = es.length + 1
  · subst h1
    rw [if_pos rfl, if_neg (by omega), Nat.add_sub_cancel]
    simp [List.getD]
  · rw [if_neg h1]
    by_cases h0 : j = 0
    · rw [if_pos h0, if_pos h0]
    · rw [if_neg h0, if_neg h0]
      simp only [List.getD]
      rw [List.getElem?_append_left (by omega)]
structure LpI (O : List (Nat × AObj)) (I : List Nat) (c m : Nat) (nm : Nat → Nat) (most : Int) (n : Nat) (S : Nat) (es1 : List (List Int × Int)) (O' : List (Nat × AObj)) (nm' : Nat → Nat) (es' : List (List Int × Int)) : Prop where
  ca : CacheAt O' I c m nm' most es'
  dr : dropZ S es' = dropZ S es1
  sf : es' <:+ es1
  na : ∀ j, j ≤ es'.length → ∃ t, t ≤ n ∧ nm' j = nm t
  fr : ∀ k, k ≠ c → k ≠ m → (∀ t, t ≤ n → k ≠ nm t) → lk O' k = lk O k
theorem LpI.drop {O : List (Nat × AObj)} {I : List Nat} {c m : Nat} {nm : Nat → Nat} {most : Int} {n S : Nat} {es1 : List (List Int × Int)} {O' O2 : List (Nat × AObj)} {nm' : Nat → Nat} {es' : List (List Int × Int)} (h : LpI O I c m nm most n S es1 O' nm' es') (hu : useZ es' > S) (h0 : 1 ≤ es'.length) (h2 : CacheAt O2 I c m (wo nm' 1) most (es'.eraseIdx (1 - 1))) (h3 : ∀ k, k ≠ c → k ≠ m → (∀ t, t ≤ es'.length → k ≠ nm' t) → lk O2 k = lk O' k) : LpI O I c m nm most n S es1 O2 (wo nm' 1) (es'.eraseIdx (1 - 1)) := by
  cases es' with
  | nil => simp at h0
  | cons e r =>
    rw [show 1 - 1 = 0 from rfl, List.eraseIdx_cons_zero] at h2 ⊢
    refine ⟨h2, ?_, (List.suffix_cons e r).trans h.sf, fun j hj => ?_, fun k k1 k2 k3 => ?_⟩
    · rw [← h.dr, dropZ, if_pos hu]
    · obtain ⟨t, t1, _, t2⟩ := wo_mem (nm := nm') (i := 1) (n := (e :: r).length) (j := j) (by omega) (by simp) (by simpa using hj)
      rw [t2]; exact h.na t t1
    · rw [h3 k k1 k2 fun t ht e => ?_, h.fr k k1 k2 k3]
      obtain ⟨u, u1, u2⟩ := h.na t ht
      exact k3 u u1 (e.trans u2)
theorem cache_more {O O' : List (Nat × AObj)} {I : List Nat} {c m x : Nat} {nm : Nat → Nat} {most : Int} {es : List (List Int × Int)} {e : List Int × Int} (h : CacheAt O I c m nm most es) (hx : x ∉ I) (hk : okB e.1 = true) (hne : ∀ a ∈ es, a.1 ≠ e.1) (hr : (useZ es : Int) + entZ e ≤ most)
    {O3 : List (Nat × AObj)} (R3 : RingAt O3 (es.length + 1) (wi nm es.length x) (wi (enZ es) es.length e)) (hO : O' = st (st O3 m ⟨70, 0, mpR nm es ++ [[.v (.string (strOfNums e.1)), .ptr x 0 0]]⟩) c (csO m (nm 0) most ((useZ es : Int) + entZ e))) : CacheAt O' (x :: I) c m (wi nm es.length x) most (es ++ [e]) := by
  have hlen : (es ++ [e]).length = es.length + 1 := by simp
  have h0 : wi nm es.length x 0 = nm 0 := by unfold wi; rw [if_neg (by omega)]
  have hxc : x ≠ c := fun e => hx (e ▸ h.ic)
  have hxm : x ≠ m := fun e => hx (e ▸ h.im)
  have hwi : ∀ j, j ≤ es.length + 1 → (wi nm es.length x j = x ∨ (j ≤ es.length ∧ wi nm es.length x j = nm j)) := fun j hj => by
    unfold wi
    split
    · exact .inl rfl
    · exact .inr ⟨by omega, rfl⟩
  have hcn : ∀ j, j ≤ es.length + 1 → wi nm es.length x j ≠ c ∧ wi nm es.length x j ≠ m := fun j hj => by
    rcases hwi j hj with e | ⟨e1, e⟩
    · rw [e]; exact ⟨hxc, hxm⟩
    · rw [e]; exact h.cn j e1
  have hus : (useZ (es ++ [e]) : Int) = (useZ es : Int) + entZ e := by
    rw [use_append, use_cons]
    have : useZ ([] : List (List Int × Int)) = 0 := rfl
    omega
  subst hO
  refine ⟨?_, ?_, ?_, h.cm, fun j hj => hcn j (by omega), List.mem_cons_of_mem _ h.ic, List.mem_cons_of_mem _ h.im, fun j hj => ?_, ?_, fun a ha => ?_, by omega, h.big⟩
  · rw [lk_st, if_pos rfl, h0, hus]
  · rw [lk_st, if_neg h.cm, lk_st, if_pos rfl]
    unfold mpO
    rw [mpR_snoc, mpR_congr (nm := wi nm es.length x) (nm' := nm) fun j hj => by unfold wi; rw [if_neg (by omega)]]
    have : wi nm es.length x (es.length + 1) = x := by unfold wi; rw [if_pos rfl]
    rw [this]
  · rw [hlen]
    refine RingAt.mono (O := O3) (R3.congr fun j hj => enZ_snoc es e hj) fun j hj => ?_
    obtain ⟨n1, n2⟩ := hcn j hj
    rw [lk_st, if_neg (Ne.symm n1), lk_st, if_neg (Ne.symm n2)]
  · rcases hwi j (by omega) with e1 | ⟨e1, e2⟩
    · rw [e1]; exact List.mem_cons_self
    · rw [e2]; exact List.mem_cons_of_mem _ (h.inn j e1)
  · rw [List.pairwise_append]
    exact ⟨h.keys, List.pairwise_singleton _ _, fun a ha b hb => by rw [List.mem_singleton.1 hb]; exact hne a ha⟩
  · rcases List.mem_append.1 ha with ha | ha
    · exact h.ok a ha
    · rw [List.mem_singleton.1 ha]; exact hk
end Go.Proofs.YtafikekndefjcaaDoor
