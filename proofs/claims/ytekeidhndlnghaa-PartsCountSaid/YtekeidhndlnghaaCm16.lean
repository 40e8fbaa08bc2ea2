/- The number of models is the product over the components, in plain words; no condition. -/
import Derived.Test.YtekeidhndlnghaaCo16
namespace Go.Proofs.Ytekeidhndlnghaa
set_option linter.unusedVariables false
set_option linter.unusedSimpArgs false
set_option linter.unusedSectionVars false
open Go.RowKit
def nSet (k : Nat) : BitVec 128 := BitVec.ofNat 128 k
theorem sHas_nSet (k : Nat) {v : Int} (h1 : 1 ≤ v) (h2 : v ≤ 128) : sHas (nSet k) v = k.testBit (v.toNat - 1) := by
  unfold sHas nSet
  rw [decide_eq_true h1, decide_eq_true h2, Bool.true_and, Bool.true_and, BitVec.getLsbD_ofNat, decide_eq_true (by omega : (v - 1).toNat < 128), Bool.true_and]
  congr 1; omega
theorem sUpto_nat {k n : Nat} (hk : k < 2 ^ n) : sUpto (nSet k) (n : Int) = true := by
  rw [sUpto_iff _ _ (by omega)]
  intro v hv
  by_cases h : v ≤ 128
  · rw [sHas_nSet k (by omega) h]
    exact Nat.testBit_lt_two_pow (Nat.lt_of_lt_of_le hk (Nat.pow_le_pow_right (by omega) (by omega)))
  · unfold sHas
    rw [decide_eq_false h]; simp
def litF (f : Nat → Bool) (l : Int) : Bool := decide (0 < litVar l) && (f (vN l - 1) == decide (0 < l))
def clF (f : Nat → Bool) (c : List Int) : Bool := c.any (litF f)
theorem litF_nat (k : Nat) (l : Int) : litHolds (nSet k) l = litF (fun i => k.testBit i) l := by
  unfold litHolds litF
  by_cases h : 0 < litVar l
  · have := (litVar_range l).2
    rw [sHas_nSet k (by omega) this]
    rfl
  · rw [decide_eq_false h]; rfl
theorem litF_res {f A : Nat → Bool} {l : Int} (h : A (vN l - 1) = true) : litF (resB f A) l = litF f l := by
  unfold litF resB; rw [h, Bool.and_true]
theorem evalT_nat {n : Nat} {L : List (List Int)} {k : Nat} (hz : checkT (n : Int) L = 0) (hk : k < 2 ^ n) : evalT (n : Int) L (nSet k) = L.all (clF fun i => k.testBit i) := by
  unfold evalT
  rw [sUpto_nat hk, decide_eq_true hz]
  simp only [Bool.true_and]
  congr 1
  funext c
  unfold clF
  congr 1
  funext l
  exact litF_nat k l
theorem allHold_nat (k : Nat) (ts : List Int) : allHold (nSet k) ts = ts.all (litF fun i => k.testBit i) := by
  unfold allHold
  congr 1
  funext l
  exact litF_nat k l
theorem CC_le : ∀ (n : Nat) (A : Nat → Bool) (P : (Nat → Bool) → Bool), CC n A P ≤ 2 ^ n
  | 0, A, P => by unfold CC; split <;> simp
  | n + 1, A, P => by
    have h1 := CC_le n A P
    have h2 := CC_le n A fun f => P (upB f n)
    show CC n A P + (if A n = true then CC n A (fun f => P (upB f n)) else 0) ≤ 2 ^ (n + 1)
    rw [Nat.pow_succ]
    split <;> omega
theorem pwB_pos : ∀ (n : Nat) (F : Nat → Bool), 1 ≤ pwB n F
  | 0, _ => Nat.le_refl _
  | n + 1, F => by
    have := pwB_pos n F
    show 1 ≤ pwB n F * if F n = true then 2 else 1
    split <;> omega
theorem pwB_mono (F : Nat → Bool) : ∀ {m n : Nat}, m ≤ n → pwB m F ≤ pwB n F
  | m, 0, h => by rw [show m = 0 by omega]; exact Nat.le_refl _
  | m, n + 1, h => by
    by_cases e : m = n + 1
    · subst e; exact Nat.le_refl _
    · have := pwB_mono F (show m ≤ n by omega)
      show pwB m F ≤ pwB n F * if F n = true then 2 else 1
      split <;> omega
def amK (S : BitVec 128) (k : Nat) : Bool := decide (BitVec.ofNat 64 k &&& ~~~ lo S = 0#64)
def inS (S : BitVec 128) (i : Nat) : Bool := sHas S ((i : Int) + 1)
theorem amK_sub {n k : Nat} (S : BitVec 128) (hn : n ≤ 64) (hk : k < 2 ^ n) : amK S k = subK n (inS S) k := by
  apply Bool.eq_iff_iff.2
  unfold amK subK
  rw [decide_eq_true_eq, List.all_eq_true]
  constructor
  · intro h i hi
    have hin := List.mem_range.1 hi
    have h1 : (BitVec.ofNat 64 k &&& ~~~ lo S).getLsbD i = false := by rw [h]; simp
    rw [BitVec.getLsbD_and, BitVec.getLsbD_not, BitVec.getLsbD_ofNat] at h1
    rw [decide_eq_true (show i < 64 by omega)] at h1
    unfold inS
    rw [sHas_lo _ _ (by omega) (by omega)]
    rw [show ((i : Int) + 1 - 1).toNat = i by omega]
    cases hb : k.testBit i
    · rfl
    · rw [hb] at h1
      simpa using h1
  · intro h
    apply BitVec.eq_of_getLsbD_eq
    intro i hi
    rw [BitVec.getLsbD_and, BitVec.getLsbD_not, BitVec.getLsbD_ofNat, decide_eq_true hi]
    by_cases hin : i < n
    · have := h i (List.mem_range.2 hin)
      unfold inS at this
      rw [sHas_lo _ _ (by omega) (by omega)] at this
      rw [show ((i : Int) + 1 - 1).toNat = i by omega] at this
      cases hb : k.testBit i
      · simp
      · rw [hb] at this
        have h2 : (lo S).getLsbD i = true := by simpa using this
        rw [h2]; simp
    · rw [Nat.testBit_lt_two_pow (Nat.lt_of_lt_of_le hk (Nat.pow_le_pow_right (by omega) (by omega)))]
      simp
section
variable {n : Nat} {L : List (List Int)} {ts : List Int}
def qP (L : List (List Int)) (ts : List Int) (p : PrtL) (f : Nat → Bool) : Bool := (alnL L ts p.2).all (clF f)
def inTB (ts : List Int) (i : Nat) : Bool := inTs ts ((i : Int) + 1)
def amongN (n : Nat) (L : List (List Int)) (ts : List Int) (p : PrtL) : Nat := cnt (fun k => amK p.1 k && evalT (n : Int) (alnL L ts p.2) (nSet k)) (2 ^ n)
theorem amongN_CC {p : PrtL} (hn : n ≤ 64) (hz : checkT (n : Int) (alnL L ts p.2) = 0) : amongN n L ts p = CC n (inS p.1) (qP L ts p) := by
  rw [← CC_cnt]
  exact cnt_congr fun k hk => by rw [amK_sub p.1 hn hk, evalT_nat hz hk]; rfl
def aK (ts : List Int) (F : BitVec 128) (l : List PrtL) (i : Nat) : Bool := (inTB ts i || inS F i) || l.any fun p => inS p.1 i
def pK (L : List (List Int)) (ts : List Int) (l : List PrtL) (f : Nat → Bool) : Bool := ts.all (litF f) && l.all fun p => qP L ts p f
def prd (n : Nat) (L : List (List Int)) (ts : List Int) : List PrtL → Nat
  | [] => 1
  | p :: l => amongN n L ts p * prd n L ts l
theorem prd_append (a b : List PrtL) : prd n L ts (a ++ b) = prd n L ts a * prd n L ts b := by
  induction a with
  | nil => simp [prd]
  | cons p a ih => simp only [List.cons_append, prd, ih, Nat.mul_assoc]
theorem vN_lit {x : Int} (h : 1 ≤ litVar x) : ((vN x - 1 : Nat) : Int) + 1 = litVar x := by unfold vN; omega
theorem inTs_mem {x : Int} (hx : x ∈ ts) (h : 1 ≤ litVar x) : inTs ts (litVar x) = true := by
  unfold inTs
  unfold litVar at h ⊢
  split at h
  · rename_i g; rw [if_pos g]; simp [hx]
  · rename_i g
    rw [if_neg g]
    split at h
    · rename_i g2; rw [if_pos g2]; simp [hx]
    · omega
theorem part_vars {N : Int} (hv : validT N L ts = true) {p : PrtL} (hp : p ∈ splL N L ts) {c : Int} (hc : c ∈ p.2) {x : Int} (hx : x ∈ restL (L.getD c.toNat []) ts) : 1 ≤ litVar x ∧ litVar x ≤ N ∧ sHas p.1 (litVar x) = true := by
  obtain ⟨hg, _, _⟩ := valid_good hv
  have hx2 : x ∈ Rs L (orderL ts) c.toNat := by unfold Rs; rw [restL_order]; exact hx
  have hvr := hg.var hx2
  refine ⟨hvr.1, hvr.2, ?_⟩
  rw [(splL_eq hv).1, splitP_eq] at hp
  rcases List.mem_append.1 hp with hp | hp
  · unfold outK at hp
    obtain ⟨i, hi, rfl⟩ := List.mem_map.1 hp
    simp at hc
    subst hc
    have := ((isE_iff L (orderL ts)).1 (List.mem_filter.1 hi).2).2
    rw [Int.toNat_natCast] at hx2
    rw [this] at hx2; cases hx2
  · obtain ⟨w, _, _, rfl⟩ := mem_finK hp
    obtain ⟨j, hj, e⟩ := List.mem_map.1 hc
    have ej : c.toNat = j := by omega
    rw [ej] at hx2
    obtain ⟨a1, a2, a3⟩ := (mem_clsN N L (orderL ts)).1 hj
    exact hg.has a1 ((isF_iff _ _).1 a2).1 a3 hx2
theorem qP_res {N : Int} (hv : validT N L ts = true) {p : PrtL} (hp : p ∈ splL N L ts) {A : Nat → Bool} (hA : ∀ i, inS p.1 i = true → A i = true) (f : Nat → Bool) : qP L ts p (resB f A) = qP L ts p f := by
  unfold qP alnL clF
  rw [List.all_map, List.all_map]
  apply Bool.eq_iff_iff.2
  rw [List.all_eq_true, List.all_eq_true]
  have key : ∀ c ∈ p.2, (restL (L.getD c.toNat []) ts).any (litF (resB f A)) = (restL (L.getD c.toNat []) ts).any (litF f) := fun c hc => by
    apply Bool.eq_iff_iff.2
    rw [List.any_eq_true, List.any_eq_true]
    have k2 : ∀ x ∈ restL (L.getD c.toNat []) ts, litF (resB f A) x = litF f x := fun x hx => by
      obtain ⟨h1, _, h3⟩ := part_vars hv hp hc hx
      exact litF_res (hA _ (by unfold inS; rw [vN_lit h1]; exact h3))
    exact ⟨fun ⟨x, hx, h⟩ => ⟨x, hx, by rw [← k2 x hx]; exact h⟩, fun ⟨x, hx, h⟩ => ⟨x, hx, by rw [k2 x hx]; exact h⟩⟩
  exact ⟨fun h c hc => by have := h c hc; dsimp only [Function.comp] at this ⊢; rwa [key c hc] at this, fun h c hc => by have := h c hc; dsimp only [Function.comp] at this ⊢; rwa [key c hc]⟩
theorem ts_var {N : Int} (hv : validT N L ts = true) {x : Int} (hx : x ∈ ts) : 1 ≤ litVar x ∧ litVar x ≤ N := by
  unfold validT at hv
  simp only [Bool.and_eq_true, List.all_eq_true] at hv
  have := hv.1.2 x hx
  simp only [litOk, Bool.and_eq_true, decide_eq_true_eq] at this
  omega
theorem tsOK_res {N : Int} (hv : validT N L ts = true) {A : Nat → Bool} (hA : ∀ i, inTB ts i = true → A i = true) (f : Nat → Bool) : ts.all (litF (resB f A)) = ts.all (litF f) := by
  apply Bool.eq_iff_iff.2
  rw [List.all_eq_true, List.all_eq_true]
  have k2 : ∀ x ∈ ts, litF (resB f A) x = litF f x := fun x hx => by
    obtain ⟨h1, _⟩ := ts_var hv hx
    exact litF_res (hA _ (by unfold inTB; rw [vN_lit h1]; exact inTs_mem hx h1))
  exact ⟨fun h x hx => by rw [← k2 x hx]; exact h x hx, fun h x hx => by rw [k2 x hx]; exact h x hx⟩
theorem tsOK_one (hv : validT (n : Int) L ts = true) : CC n (inTB ts) (fun f => ts.all (litF f)) = 1 := by
  rw [← CC_one n (inTB ts) fun i => decide (((i : Int) + 1) ∈ ts)]
  refine CC_congr n (fun _ _ => rfl) fun f _ => ?_
  have hop : ∀ y ∈ ts, 0 < litVar y → -y ∉ ts := fun y hy h0 hn => by
    unfold validT at hv
    simp only [Bool.and_eq_true, Bool.not_eq_true'] at hv
    have h2 := hv.2
    unfold opposed at h2
    rw [List.any_eq_false] at h2
    exact h2 y hy (by simp [h0, hn])
  apply Bool.eq_iff_iff.2
  unfold agrB
  rw [List.all_eq_true, List.all_eq_true]
  have hn128 : (n : Int) ≤ 128 := (checkT_ok (valid_check hv)).2.1
  constructor
  · intro h i hi
    have hin := List.mem_range.1 hi
    cases hT : inTB ts i
    · rfl
    · unfold inTB inTs at hT
      rw [Bool.or_eq_true, decide_eq_true_eq, decide_eq_true_eq] at hT
      rcases hT with hT | hT
      · have := h _ hT
        unfold litF at this
        have e : vN ((i : Int) + 1) - 1 = i := by unfold vN; rw [litVar_pos (by omega) (by omega)]; omega
        rw [e] at this
        simp only [Bool.and_eq_true, beq_iff_eq] at this
        dsimp only
        rw [this.2, decide_eq_true hT, decide_eq_true (by omega)]; rfl
      · have := h _ hT
        unfold litF at this
        have e : vN (-((i : Int) + 1)) - 1 = i := by unfold vN; rw [litVar_neg (by omega) (by omega)]; omega
        rw [e] at this
        simp only [Bool.and_eq_true, beq_iff_eq] at this
        have hno : ((i : Int) + 1) ∉ ts := fun hm => by
          have := hop _ hT (by rw [litVar_neg (by omega) (by omega)]; omega)
          exact this (by simpa using hm)
        dsimp only
        rw [this.2, decide_eq_false hno, decide_eq_false (by omega)]; rfl
  · intro h x hx
    obtain ⟨h1, h2⟩ := ts_var hv hx
    have hT : inTB ts (vN x - 1) = true := by unfold inTB; rw [vN_lit h1]; exact inTs_mem hx h1
    have hlt : vN x - 1 < n := by unfold vN; omega
    have := h _ (List.mem_range.2 hlt)
    rw [hT] at this
    simp only [Bool.not_true, Bool.false_or, beq_iff_eq] at this
    unfold litF
    rw [this, vN_lit h1, decide_eq_true (by omega)]
    by_cases hpos : 0 < x
    · have : litVar x = x := by unfold litVar at h1 ⊢; split <;> (try split) <;> simp_all <;> omega
      rw [this, decide_eq_true hx, decide_eq_true hpos]; rfl
    · have : litVar x = -x := by unfold litVar at h1 ⊢; split <;> (try split) <;> simp_all <;> omega
      have hno : -x ∉ ts := hop x hx (by omega)
      rw [this, decide_eq_false hno, decide_eq_false hpos]; rfl
theorem cntV_pos {l : List PrtL} {p : PrtL} {v : Int} (hp : p ∈ l) (h : sHas p.1 v = true) : 1 ≤ cntV l v := by
  unfold cntV
  exact List.length_pos_iff_exists_mem.2 ⟨p, List.mem_filter.2 ⟨hp, h⟩⟩
theorem step_CC (hv : validT (n : Int) L ts = true) {k : Nat} (hk : k < (splL (n : Int) L ts).length) :
    CC n (aK ts (splF (n : Int) L ts) ((splL (n : Int) L ts).take (k + 1))) (pK L ts ((splL (n : Int) L ts).take (k + 1))) = CC n (aK ts (splF (n : Int) L ts) ((splL (n : Int) L ts).take k)) (pK L ts ((splL (n : Int) L ts).take k)) * CC n (inS (splL (n : Int) L ts)[k].1) (qP L ts (splL (n : Int) L ts)[k]) := by
  have hdv := fun v h1 h2 => div_vars hv (v := v) h1 h2
  have hn128 : (n : Int) ≤ 128 := (checkT_ok (valid_check hv)).2.1
  have hsp : ∀ p ∈ splL (n : Int) L ts, ∀ A : Nat → Bool, (∀ i, inS p.1 i = true → A i = true) → ∀ f, qP L ts p (resB f A) = qP L ts p f := fun p hp A hA f => qP_res hv hp hA f
  obtain ⟨l, hl⟩ : ∃ l, splL (n : Int) L ts = l := ⟨_, rfl⟩
  obtain ⟨F, hF⟩ : ∃ F, splF (n : Int) L ts = F := ⟨_, rfl⟩
  simp only [hl, hF] at hdv hsp hk ⊢
  rw [← CC_mul n (A := aK ts F (l.take k)) (B := inS l[k].1) (pK L ts (l.take k)) (qP L ts l[k]) ?_]
  · rw [List.take_succ_eq_append_getElem hk]
    refine CC_congr n (fun i _ => ?_) fun f _ => ?_
    · unfold aK; rw [List.any_append]; simp [Bool.or_assoc]
    · unfold pK
      rw [List.all_append]
      rw [tsOK_res hv (fun i hi => by unfold aK; rw [hi]; rfl), hsp l[k] (List.getElem_mem hk) _ fun i hi => hi]
      have : ((l.take k).all fun p => qP L ts p (resB f (aK ts F (l.take k)))) = ((l.take k).all fun p => qP L ts p f) := by
        apply Bool.eq_iff_iff.2
        rw [List.all_eq_true, List.all_eq_true]
        have k2 : ∀ p ∈ l.take k, qP L ts p (resB f (aK ts F (l.take k))) = qP L ts p f := fun p hp => hsp p (List.mem_of_mem_take hp) _ (fun i hi => by
          unfold aK
          rw [Bool.or_eq_true]; right
          exact List.any_eq_true.2 ⟨p, hp, hi⟩) f
        exact ⟨fun h p hp => by rw [← k2 p hp]; exact h p hp, fun h p hp => by rw [k2 p hp]; exact h p hp⟩
      rw [this]
      simp [Bool.and_assoc]
  · rintro i hi ⟨ha, hb⟩
    have h1 := hdv ((i : Int) + 1) (by omega) (by omega)
    rw [if_pos (show (i : Int) + 1 ≤ (n : Int) by omega)] at h1
    have hsplit : cntV l ((i : Int) + 1) = cntV (l.take k) ((i : Int) + 1) + cntV (l.drop k) ((i : Int) + 1) := by rw [← cntV_append, List.take_append_drop]
    have hd : 1 ≤ cntV (l.drop k) ((i : Int) + 1) := cntV_pos (p := l[k]) (by rw [List.drop_eq_getElem_cons hk]; exact List.mem_cons_self) hb
    unfold aK inTB inS at ha
    rw [Bool.or_eq_true, Bool.or_eq_true] at ha
    rcases ha with (ha | ha) | ha
    · rw [if_pos ha] at h1; omega
    · rw [if_pos ha] at h1; omega
    · obtain ⟨p, hp, h2⟩ := List.any_eq_true.1 ha
      have := cntV_pos hp h2
      omega
theorem start_CC (hv : validT (n : Int) L ts = true) : CC n (aK ts (splF (n : Int) L ts) []) (pK L ts []) = pwB n (inS (splF (n : Int) L ts)) := by
  have hdv := fun v h1 h2 => div_vars hv (v := v) h1 h2
  have hn128 : (n : Int) ≤ 128 := (checkT_ok (valid_check hv)).2.1
  have h := CC_mul n (A := inTB ts) (B := inS (splF (n : Int) L ts)) (fun f => ts.all (litF f)) (fun _ => true) (fun i hi ⟨ha, hb⟩ => by
    have h1 := hdv ((i : Int) + 1) (by omega) (by omega)
    have ha2 : inTs ts ((i : Int) + 1) = true := ha
    have hb2 : sHas (splF (n : Int) L ts) ((i : Int) + 1) = true := hb
    rw [if_pos ha2, if_pos hb2] at h1
    split at h1 <;> omega)
  rw [tsOK_one hv, CC_pow, Nat.one_mul] at h
  rw [← h]
  refine CC_congr n (fun i _ => ?_) fun f _ => ?_
  · unfold aK; simp
  · unfold pK; simp only [List.all_nil, Bool.and_true]
    rw [tsOK_res hv fun i hi => hi]
theorem all_CC (hv : validT (n : Int) L ts = true) (hn : n ≤ 64) : ∀ k, k ≤ (splL (n : Int) L ts).length → CC n (aK ts (splF (n : Int) L ts) ((splL (n : Int) L ts).take k)) (pK L ts ((splL (n : Int) L ts).take k)) = pwB n (inS (splF (n : Int) L ts)) * prd n L ts ((splL (n : Int) L ts).take k)
  | 0, _ => by rw [List.take_zero, start_CC hv]; simp [prd]
  | k + 1, hk => by
    have hkk : k < (splL (n : Int) L ts).length := by omega
    rw [step_CC hv hkk, all_CC hv hn k (by omega), List.take_succ_eq_append_getElem hkk, prd_append]
    have hz : checkT (n : Int) (alnL L ts (splL (n : Int) L ts)[k].2) = 0 := valid_check (whole_part hv (List.getElem_mem hkk)).2.1
    simp only [prd, Nat.mul_one]
    rw [amongN_CC hn hz, Nat.mul_assoc]
theorem whole_P (hv : validT (n : Int) L ts = true) (f : Nat → Bool) : (L.all (clF f) && ts.all (litF f)) = pK L ts (splL (n : Int) L ts) f := by
  have hdc := fun i hi => div_clauses hv (i := i) hi
  have hdr := fun c hc => div_range hv (c := c) hc
  unfold pK
  rw [Bool.and_comm]
  cases hts : ts.all (litF f)
  · rfl
  · rw [Bool.true_and, Bool.true_and]
    rw [List.all_eq_true] at hts
    apply Bool.eq_iff_iff.2
    rw [List.all_eq_true, List.all_eq_true]
    have hval : ∀ x ∈ ts, litF f (-x) = false := fun x hx => by
      have h1 := hts x hx
      have h2 := (ts_var hv hx).1
      unfold litF at h1 ⊢
      simp only [Bool.and_eq_true, beq_iff_eq] at h1
      have e : litVar (-x) = litVar x := by unfold litVar; split <;> split <;> (try split) <;> (try split) <;> omega
      have e2 : vN (-x) = vN x := by unfold vN; rw [e]
      have h0 : x ≠ 0 := fun h => by subst h; simp [litVar] at h2
      rw [e, e2, h1.2]
      by_cases hp : 0 < x
      · rw [decide_eq_true hp, decide_eq_false (show ¬ 0 < -x by omega)]; simp
      · rw [decide_eq_false hp, decide_eq_true (show 0 < -x by omega)]; simp
    constructor
    · intro h p hp
      unfold qP alnL
      rw [List.all_map, List.all_eq_true]
      intro c hc
      have hcf : c ∈ flatC (splL (n : Int) L ts) := List.mem_flatMap.2 ⟨p, hp, hc⟩
      obtain ⟨r0, r1⟩ := hdr c hcf
      have hi : c.toNat < L.length := by omega
      have hcl := h _ (getD_memL hi)
      show clF f (restL (L.getD c.toNat []) ts) = true
      unfold clF at hcl ⊢
      rw [List.any_eq_true] at hcl ⊢
      obtain ⟨x, hx, h2⟩ := hcl
      refine ⟨x, ?_, h2⟩
      unfold restL
      rw [List.mem_filter]
      refine ⟨hx, ?_⟩
      simp only [decide_eq_true_eq]
      intro hm
      have := hval _ hm
      rw [Int.neg_neg, h2] at this; cases this
    · intro h c hc
      obtain ⟨i, hi, rfl⟩ := List.getElem_of_mem hc
      have e : L.getD i [] = L[i] := by simp [List.getD, hi]
      have hct := hdc i hi
      rw [e] at hct
      cases hl : leftL L[i] ts
      · unfold leftL at hl
        rw [List.all_eq_false] at hl
        obtain ⟨x, hx, h2⟩ := hl
        have hxm : x ∈ ts := by simpa using h2
        unfold clF
        rw [List.any_eq_true]
        exact ⟨x, hx, hts x hxm⟩
      · rw [hl, if_pos rfl] at hct
        have hm : (i : Int) ∈ flatC (splL (n : Int) L ts) := List.count_pos_iff.1 (by omega)
        obtain ⟨p, hp, hip⟩ := List.mem_flatMap.1 hm
        have h1 := h p hp
        unfold qP alnL at h1
        rw [List.all_map, List.all_eq_true] at h1
        have h2 := h1 _ hip
        have h3 : clF f (restL (L.getD (i : Int).toNat []) ts) = true := h2
        rw [Int.toNat_natCast, e] at h3
        unfold clF at h3 ⊢
        rw [List.any_eq_true] at h3 ⊢
        obtain ⟨x, hx, h4⟩ := h3
        exact ⟨x, (List.mem_filter.1 hx).1, h4⟩
theorem count_law (hv : validT (n : Int) L ts = true) (hn : n ≤ 64) : cnt (fun k => evalT (n : Int) L (nSet k) && allHold (nSet k) ts) (2 ^ n) = pwB n (inS (splF (n : Int) L ts)) * prd n L ts (splL (n : Int) L ts) := by
  have hdv := fun v h1 h2 => div_vars hv (v := v) h1 h2
  have hn128 : (n : Int) ≤ 128 := (checkT_ok (valid_check hv)).2.1
  have h := all_CC hv hn _ (Nat.le_refl _)
  rw [List.take_length] at h
  rw [← h, ← CC_cnt]
  refine cnt_congr fun k hk => ?_
  rw [evalT_nat (valid_check hv) hk, allHold_nat, whole_P hv]
  have : subK n (aK ts (splF (n : Int) L ts) (splL (n : Int) L ts)) k = true := by
    unfold subK
    rw [List.all_eq_true]
    intro i hi
    have hin := List.mem_range.1 hi
    have h1 := hdv ((i : Int) + 1) (by omega) (by omega)
    rw [if_pos (show (i : Int) + 1 ≤ (n : Int) by omega)] at h1
    rw [Bool.or_eq_true]; right
    unfold aK inTB inS
    rw [Bool.or_eq_true, Bool.or_eq_true]
    by_cases g1 : inTs ts ((i : Int) + 1) = true
    · exact .inl (.inl g1)
    · by_cases g2 : sHas (splF (n : Int) L ts) ((i : Int) + 1) = true
      · exact .inl (.inr g2)
      · rw [if_neg g1, if_neg g2] at h1
        right
        have hp : 0 < cntV (splL (n : Int) L ts) ((i : Int) + 1) := by omega
        unfold cntV at hp
        obtain ⟨p, hp2⟩ := List.length_pos_iff_exists_mem.1 hp
        have := List.mem_filter.1 hp2
        exact List.any_eq_true.2 ⟨p, this.1, this.2⟩
  rw [this, Bool.true_and]
theorem prd_le (hv : validT (n : Int) L ts = true) (hn : n ≤ 64) {k : Nat} (hk : k ≤ (splL (n : Int) L ts).length) : prd n L ts ((splL (n : Int) L ts).take k) ≤ 2 ^ n := by
  have h := all_CC hv hn k hk
  have h1 := CC_le n (aK ts (splF (n : Int) L ts) ((splL (n : Int) L ts).take k)) (pK L ts ((splL (n : Int) L ts).take k))
  have h2 := pwB_pos n (inS (splF (n : Int) L ts))
  rw [h] at h1
  exact Nat.le_trans (Nat.le_mul_of_pos_left _ h2) h1
end
end Go.Proofs.Ytekeidhndlnghaa
