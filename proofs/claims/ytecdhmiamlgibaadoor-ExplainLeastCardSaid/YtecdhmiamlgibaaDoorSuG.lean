/- All subsets of a set, and what is sufficient, in the reference's words (plain); no condition. -/
import Derived.Test.YtecdhmiamlgibaaDoorNgG
import Derived.Test.YtecdhmiamlgibaaDoorTq39
/- Sb39: All subsets of a set, and what is sufficient, in the reference's words (plain); no condition. -/
namespace Go.Proofs.YtecdhmiamlgibaaDoor
set_option linter.unusedVariables false
set_option linter.unusedSimpArgs false
set_option linter.unusedSectionVars false
open Go.RowKit
set_option maxRecDepth 100000
def subsL (vs : List Int) : List (BitVec 128) := vs.foldl (fun out v => out ++ out.map fun s => sWith s v) [0#128]
theorem subs_snoc (vs : List Int) (v : Int) : subsL (vs ++ [v]) = subsL vs ++ (subsL vs).map fun s => sWith s v := by
 unfold subsL; rw [List.foldl_append]; rfl
theorem snoc_ind {P : List Int → Prop} (h0 : P []) (h1 : ∀ vs v, P vs → P (vs ++ [v])) (vs : List Int) : P vs := by
 have h : ∀ ws : List Int, P ws.reverse := fun ws => by
  induction ws with
  | nil => exact h0
  | cons v ws ih => rw [List.reverse_cons]; exact h1 _ _ ih
 rw [← List.reverse_reverse vs]
 exact h _
theorem subs_len (vs : List Int) : (subsL vs).length = 2 ^ vs.length := by
 refine snoc_ind (P := fun vs => (subsL vs).length = 2 ^ vs.length) rfl (fun vs v ih => ?_) vs
 ·rw [subs_snoc, List.length_append, List.length_map, ih, List.length_append, List.length_singleton, Nat.pow_succ]; omega
theorem setX_lo (v : Int) : ∀ (vs : List Int) {x : Nat}, x < 2 ^ vs.length → setX (vs ++ [v]) x = setX vs x
 | [], x, h => by
  obtain rfl : x = 0 := by simpa using h
  rfl
 | u :: r, x, h => by
  have h2 : x / 2 < 2 ^ r.length := by rw [List.length_cons, Nat.pow_succ] at h; omega
  rw [List.cons_append]
  unfold setX
  rw [setX_lo v r h2]
theorem setX_hi (v : Int) : ∀ (vs : List Int) {x : Nat}, x < 2 ^ vs.length → setX (vs ++ [v]) (2 ^ vs.length + x) = sWith (setX vs x) v
 | [], x, h => by
  obtain rfl : x = 0 := by simpa using h
  show sBit v ||| 0#128 = 0#128 ||| sBit v
  rw [BitVec.or_comm]
 | u :: r, x, h => by
  have h2 : x / 2 < 2 ^ r.length := by rw [List.length_cons, Nat.pow_succ] at h; omega
  have e1 : (2 ^ (u :: r).length + x) % 2 = x % 2 := by rw [List.length_cons, Nat.pow_succ]; omega
  have e2 : (2 ^ (u :: r).length + x) / 2 = 2 ^ r.length + x / 2 := by rw [List.length_cons, Nat.pow_succ]; omega
  rw [List.cons_append]
  unfold setX
  rw [e1, e2, setX_hi v r h2]
  unfold sWith
  split
  ·rw [BitVec.or_assoc]
  ·rfl
theorem subs_eq (vs : List Int) : subsL vs = (List.range (2 ^ vs.length)).map (setX vs) := by
 refine snoc_ind (P := fun vs => subsL vs = (List.range (2 ^ vs.length)).map (setX vs)) rfl (fun vs v ih => ?_) vs
 ·rw [subs_snoc, ih, List.length_append, List.length_singleton, Nat.pow_succ, Nat.mul_two, List.range_add, List.map_append, List.map_map, List.map_map]
  congr 1
  ·exact List.map_congr_left fun x hx => (setX_lo v vs (List.mem_range.1 hx)).symm
  ·exact List.map_congr_left fun x hx => (setX_hi v vs (List.mem_range.1 hx)).symm
def mixS (a b s : BitVec 128) : BitVec 128 := (a &&& s) ||| (b &&& ~~~ s)
theorem mix_has {a b s : BitVec 128} {u : Int} (hu : 1 ≤ u ∧ u ≤ 128) : sHas (mixS a b s) u = if sHas s u = true then sHas a u else sHas b u := by
 unfold mixS
 rw [sHas_or, sHas_and, sHas_and, sHas_not _ _ hu.1 hu.2]
 cases sHas s u <;> simp
theorem idx_at {vs : List Int} (h : vs.Nodup) (a : BitVec 128) {p : Nat} (hp : p < vs.length) : (idxN vs a).testBit p = sHas a (vs.getD p 0) := idxN_bit (posV_get h hp)
theorem idx_out (vs : List Int) (a : BitVec 128) {p : Nat} (hp : vs.length ≤ p) : (idxN vs a).testBit p = false :=
 Nat.testBit_lt_two_pow (Nat.lt_of_lt_of_le (idxN_lt vs a) (Nat.pow_le_pow_right (by omega) hp))
theorem idx_set {vs : List Int} (h : okVs vs) {x : Nat} (hx : x < 2 ^ vs.length) : idxN vs (setX vs x) = x := by
 apply Nat.eq_of_testBit_eq
 intro p
 by_cases hp : p < vs.length
 ·rw [idx_at h.1 _ hp, setX_has h, posV_get h.1 hp]
 ·rw [idx_out vs _ (by omega)]
  exact (Nat.testBit_lt_two_pow (Nat.lt_of_lt_of_le hx (Nat.pow_le_pow_right (by omega) (by omega)))).symm
def resF (ns : List Nd) (vs : List Int) (k : Nat) : Bool := evalR ns (setX vs k)
theorem suff_iff {N : Int} {ns : List Nd} (h : validN N ns = true) {vs : List Int} (hvs : okVs vs) (hm : ∀ v, sHas (matS ns) v = true ↔ v ∈ vs) {ws : List Int} {a s : BitVec 128} (hws : okVs ws) (hw : ∀ v, v ∈ ws ↔ v ∈ vs ∧ sHas s v = false) :
  ((subsL ws).all fun x => decide (evalR ns (mixS a x s) = evalR ns a)) = !chgB (resF ns vs) vs.length (idxN vs a) (cmpl vs.length (idxN vs s)) := by
 have hev : ∀ b, evalR ns b = resF ns vs (idxN vs b) := fun b => eval_on h hvs (fun v hv => (hm v).1 hv) b
 have hv := hvs.2
 have hvp : ∀ p, p < vs.length → vs.getD p 0 ∈ vs := fun p hp => by
  simp [List.getD, hp]
 rw [Bool.eq_iff_iff, List.all_eq_true, Bool.not_eq_true', ← Bool.not_eq_true, chg_iff (cmpl_lt (idxN_lt vs s))]
 constructor
 ·rintro hall ⟨d, hd, hne⟩
  apply hne
  have hdn : ∀ p, vs.length ≤ p → d.testBit p = false := fun p hp => by
   cases e : d.testBit p with
   | false => rfl
   | true =>
    have := hd p e
    rw [cmpl_bit, idx_out vs s hp, decide_eq_false (by omega)] at this
    cases this
  -- the set with these changes
  obtain ⟨b, hb⟩ : ∃ b, setX vs (idxN vs a ^^^ d) = b := ⟨_, rfl⟩
  have hlt : idxN vs a ^^^ d < 2 ^ vs.length := by
   apply Nat.lt_pow_two_of_testBit
   intro p hp
   rw [Nat.testBit_xor, idx_out vs a hp, hdn p hp]; rfl
  have hbi : idxN vs b = idxN vs a ^^^ d := by rw [← hb]; exact idx_set hvs hlt
  have hx := hall (setX ws (idxN ws b)) (by rw [subs_eq]; exact List.mem_map.2 ⟨_, List.mem_range.2 (idxN_lt ws b), rfl⟩)
  rw [decide_eq_true_eq, hev, hev a] at hx
  rw [← hx]
  congr 1
  apply Nat.eq_of_testBit_eq
  intro p
  by_cases hp : p < vs.length
  ·have hu := hv _ (hvp p hp)
   rw [idx_at hvs.1 _ hp, mix_has hu]
   cases hs : sHas s (vs.getD p 0) with
   | true =>
    rw [if_pos rfl, Nat.testBit_xor, idx_at hvs.1 a hp]
    have : d.testBit p = false := by
     cases e : d.testBit p with
     | false => rfl
     | true =>
      have h2 := hd p e
      rw [cmpl_bit, idx_at hvs.1 s hp, hs, decide_eq_true hp] at h2
      cases h2
    rw [this, Bool.xor_false]
   | false =>
    rw [if_neg (by simp), setX_idx hws, decide_eq_true ((hw _).2 ⟨hvp p hp, hs⟩), Bool.true_and, ← hbi, idx_at hvs.1 b hp]
  ·rw [idx_out vs _ (by omega), Nat.testBit_xor, idx_out vs _ (by omega), hdn p (by omega)]; rfl
 ·intro hno x hx
  rw [decide_eq_true_eq]
  apply Decidable.byContradiction
  intro hne
  apply hno
  refine ⟨idxN vs a ^^^ idxN vs (mixS a x s), fun p hp => ?_, ?_⟩
  ·have hpl : p < vs.length := by
    apply Decidable.byContradiction
    intro hc
    rw [Nat.testBit_xor, idx_out vs _ (by omega), idx_out vs _ (by omega)] at hp
    cases hp
   rw [cmpl_bit, idx_at hvs.1 s hpl, decide_eq_true hpl]
   cases hs : sHas s (vs.getD p 0) with
   | false => rfl
   | true =>
    rw [Nat.testBit_xor, idx_at hvs.1 _ hpl, idx_at hvs.1 _ hpl, mix_has (hv _ (hvp p hpl)), hs, if_pos rfl, Bool.xor_self] at hp
    cases hp
  ·rw [← Nat.xor_assoc, Nat.xor_self, Nat.zero_xor, ← hev, ← hev]
   exact hne
end Go.Proofs.YtecdhmiamlgibaaDoor
/- Sc39: What a reason is, in the reference's words (plain); no condition. -/
namespace Go.Proofs.YtecdhmiamlgibaaDoor
set_option linter.unusedVariables false
set_option linter.unusedSimpArgs false
set_option linter.unusedSectionVars false
open Go.RowKit
set_option maxRecDepth 100000
def suffB (ns : List Nd) (a s : BitVec 128) : Bool := (subsL (listS (matS ns &&& ~~~ s))).all fun x => decide (evalR ns (mixS a x s) = evalR ns a)
theorem suffB_eq {N : Int} {ns : List Nd} (h : validN N ns = true) (a s : BitVec 128) : suffB ns a s = !chgB (resF ns (listS (matS ns))) (listS (matS ns)).length (idxN (listS (matS ns)) a) (cmpl (listS (matS ns)).length (idxN (listS (matS ns)) s)) := by
 unfold suffB
 refine suff_iff h (listS_vs _) (fun v => (listS_mem _ _).symm) (listS_vs _) (fun v => ?_)
 rw [listS_mem, listS_mem, sHas_and]
 constructor
 ·intro hh
  rw [Bool.and_eq_true] at hh
  have hr := sHas_mem hh.1
  rw [sHas_not _ _ hr.1 hr.2, Bool.not_eq_true'] at hh
  exact hh
 ·rintro ⟨h1, h2⟩
  have hr := sHas_mem h1
  rw [h1, sHas_not _ _ hr.1 hr.2, h2]; rfl
def resnB (ns : List Nd) (a s : BitVec 128) : Bool := ((listS s).all fun v => !suffB ns a (sWithout s v)) && suffB ns a s
theorem idx_without {vs : List Int} (h : okVs vs) {P k : Nat} (hk : k < vs.length) (hp : P.testBit k = true) : idxN vs (sWithout (setX vs P) (vs.getD k 0)) = P % 2 ^ vs.length ^^^ 2 ^ k := by
 apply Nat.eq_of_testBit_eq
 intro p
 rw [Nat.testBit_xor, Nat.testBit_mod_two_pow, Nat.testBit_two_pow]
 by_cases hpl : p < vs.length
 ·rw [idx_at h.1 _ hpl, sHas_without, setX_has h, posV_get h.1 hpl, decide_eq_true hpl, Bool.true_and]
  simp only
  by_cases e : k = p
  ·subst e
   rw [hp]; simp
  ·have hne : ¬ vs.getD p 0 = vs.getD k 0 := fun e2 => e (by
    have h1 := posV_get h.1 hpl
    rw [e2, posV_get h.1 hk] at h1
    exact Option.some.inj h1)
   rw [decide_eq_false hne, decide_eq_false e]; simp
 ·rw [idx_out vs _ (by omega), decide_eq_false hpl, decide_eq_false (by omega)]; rfl
theorem resn_eq {N : Int} {ns : List Nd} (h : validN N ns = true) (a : BitVec 128) {P : Nat} (hP : P < 2 ^ (listS (matS ns)).length) : resnB ns a (setX (listS (matS ns)) P) = leastB (resF ns (listS (matS ns))) (listS (matS ns)).length (idxN (listS (matS ns)) a) P := by
 have hvs := listS_vs (matS ns)
 have hs := fun s => suffB_eq h a s
 unfold resnB leastB
 generalize listS (matS ns) = vs at *
 rw [hs, idx_set hvs hP, Bool.and_comm]
 congr 1
 rw [Bool.eq_iff_iff, List.all_eq_true, List.all_eq_true]
 have hw : ∀ k, k < vs.length → P.testBit k = true → (!suffB ns a (sWithout (setX vs P) (vs.getD k 0))) = chgB (resF ns vs) vs.length (idxN vs a) (cmpl vs.length P ||| 2 ^ k) := fun k hk hp => by
  rw [hs, idx_without hvs hk hp, Nat.mod_eq_of_lt hP, Bool.not_not, cmpl_or hP hp]
 constructor
 ·intro hall k hk
  have hkl := List.mem_range.1 hk
  cases hp : P.testBit k with
  | false => rfl
  | true =>
   rw [← hw k hkl hp]
   exact hall _ ((listS_mem _ _).2 (by rw [setX_has hvs, posV_get hvs.1 hkl]; exact hp))
 ·intro hall v hv
  have hv2 := (listS_mem _ _).1 hv
  rw [setX_has hvs] at hv2
  cases hpv : posV vs v with
  | none => rw [hpv] at hv2; cases hv2
  | some k =>
   rw [hpv] at hv2
   replace hv2 : P.testBit k = true := hv2
   have hmem : v ∈ vs := Decidable.byContradiction fun hn => by rw [posV_none hn] at hpv; cases hpv
   obtain ⟨k2, h1, h2, h3⟩ := posV_some hmem
   rw [hpv] at h1
   cases h1
   have h4 := hall k (List.mem_range.2 h2)
   rw [hv2] at h4
   rw [← h3, hw k h2 hv2]
   simpa using h4
end Go.Proofs.YtecdhmiamlgibaaDoor
/- Se39: The order of reasons, and lists sorted by it (plain); no condition. -/
namespace Go.Proofs.YtecdhmiamlgibaaDoor
set_option linter.unusedVariables false
set_option linter.unusedSimpArgs false
set_option linter.unusedSectionVars false
open Go.RowKit
set_option maxRecDepth 100000
def absR (x : Int) : Int := max x (-x)
def lexR : List Int → List Int → Bool
 | x :: r, y :: t => if absR x = absR y then lexR r t else decide (absR x < absR y)
 | _, _ => false
def befR (a b : List Int) : Bool := if a.length = b.length then lexR a b else decide (a.length < b.length)
theorem lex_irr : ∀ a, lexR a a = false
 | [] => rfl
 | x :: r => by unfold lexR; rw [if_pos rfl]; exact lex_irr r
theorem lex_trans : ∀ {a b c : List Int}, lexR a b = true → lexR b c = true → lexR a c = true
 | [], _, _, h, _ => by simp [lexR] at h
 | _ :: _, [], _, h, _ => by simp [lexR] at h
 | _ :: _, _ :: _, [], _, h => by simp [lexR] at h
 | x :: a, y :: b, z :: c, h1, h2 => by
  unfold lexR at h1 h2 ⊢
  by_cases e1 : absR x = absR y
  ·rw [if_pos e1] at h1
   by_cases e2 : absR y = absR z
   ·rw [if_pos e2] at h2
    rw [if_pos (e1.trans e2)]
    exact lex_trans h1 h2
   ·rw [if_neg e2] at h2
    rw [if_neg (by rw [e1]; exact e2), e1]
    exact h2
  ·rw [if_neg e1, decide_eq_true_eq] at h1
   by_cases e2 : absR y = absR z
   ·rw [if_neg (by rw [← e2]; exact e1), ← e2, decide_eq_true_eq]
    exact h1
   ·rw [if_neg e2, decide_eq_true_eq] at h2
    rw [if_neg (by omega), decide_eq_true_eq]
    omega
theorem lex_total : ∀ {a b : List Int}, a.length = b.length → a.map absR ≠ b.map absR → lexR a b = true ∨ lexR b a = true
 | [], [], _, h => absurd rfl h
 | [], _ :: _, h, _ => by simp at h
 | _ :: _, [], h, _ => by simp at h
 | x :: a, y :: b, h, hne => by
  unfold lexR
  by_cases e : absR x = absR y
  ·rw [if_pos e, if_pos e.symm]
   refine lex_total (by simpa using h) fun h2 => hne ?_
   simp [e, h2]
  ·rw [if_neg e, if_neg (Ne.symm e), decide_eq_true_eq, decide_eq_true_eq]
   omega
theorem bef_irr (a : List Int) : befR a a = false := by unfold befR; rw [if_pos rfl]; exact lex_irr a
theorem bef_trans {a b c : List Int} (h1 : befR a b = true) (h2 : befR b c = true) : befR a c = true := by
 unfold befR at *
 split at h1 <;> split at h2
 ·rename_i e1 e2
  rw [if_pos (e1.trans e2)]; exact lex_trans h1 h2
 ·rename_i e1 e2
  rw [decide_eq_true_eq] at h2
  rw [if_neg (by omega), decide_eq_true_eq]; omega
 ·rename_i e1 e2
  rw [decide_eq_true_eq] at h1
  rw [if_neg (by omega), decide_eq_true_eq]; omega
 ·rw [decide_eq_true_eq] at h1 h2
  rw [if_neg (by omega), decide_eq_true_eq]; omega
theorem bef_total {a b : List Int} (h : a.map absR ≠ b.map absR) : befR a b = true ∨ befR b a = true := by
 unfold befR
 by_cases e : a.length = b.length
 ·rw [if_pos e, if_pos e.symm]; exact lex_total e h
 ·rw [if_neg e, if_neg (Ne.symm e), decide_eq_true_eq, decide_eq_true_eq]; omega
def putR : List (List Int) → List Int → List (List Int)
 | [], x => [x]
 | y :: r, x => if befR x y = true then x :: y :: r else y :: putR r x
theorem put_perm : ∀ (l : List (List Int)) (x : List Int), (putR l x).Perm (x :: l)
 | [], x => List.Perm.refl _
 | y :: r, x => by
  unfold putR
  split
  ·exact List.Perm.refl _
  ·exact ((put_perm r x).cons y).trans (List.Perm.swap x y r)
def SrtR (l : List (List Int)) : Prop := l.Pairwise fun a b => befR b a = false
theorem put_sorted : ∀ {l : List (List Int)} (x : List Int), SrtR l → SrtR (putR l x)
 | [], x, _ => List.pairwise_singleton ..
 | y :: r, x, h => by
  unfold putR
  obtain ⟨h1, h2⟩ := List.pairwise_cons.1 h
  split
  ·rename_i hb
   refine List.pairwise_cons.2 ⟨fun z hz => ?_, h⟩
   rcases List.mem_cons.1 hz with rfl | hz
   ·cases e : befR z x with
    | false => rfl
    | true => rw [← bef_irr x, bef_trans hb e]
   ·cases e : befR z x with
    | false => rfl
    | true => rw [← h1 z hz, bef_trans e hb]
  ·rename_i hb
   refine List.pairwise_cons.2 ⟨fun z hz => ?_, put_sorted x h2⟩
   rcases List.mem_cons.1 ((put_perm r x).mem_iff.1 hz) with rfl | hz
   ·simpa using hb
   ·exact h1 z hz
theorem puts_ok : ∀ (xs l : List (List Int)), SrtR l → SrtR (xs.foldl putR l) ∧ (xs.foldl putR l).Perm (xs ++ l)
 | [], l, h => ⟨h, List.Perm.refl _⟩
 | x :: xs, l, h => by
  obtain ⟨h1, h2⟩ := puts_ok xs (putR l x) (put_sorted x h)
  exact ⟨h1, h2.trans (((put_perm l x).append_left xs).trans (List.perm_middle))⟩
theorem srt_uniq : ∀ {l1 l2 : List (List Int)}, l1.Perm l2 → SrtR l1 → SrtR l2 → (∀ a ∈ l1, ∀ b ∈ l1, a ≠ b → a.map absR ≠ b.map absR) → l1 = l2
 | [], l2, h, _, _, _ => (List.nil_perm.1 h).symm
 | a :: r1, [], h, _, _, _ => absurd h.length_eq (by simp)
 | a :: r1, b :: r2, h, h1, h2, ht => by
  have e : a = b := Decidable.byContradiction fun hne => by
   have ha : a ∈ r2 := (List.mem_cons.1 (h.mem_iff.1 List.mem_cons_self)).resolve_left hne
   have hb : b ∈ r1 := (List.mem_cons.1 (h.mem_iff.2 List.mem_cons_self)).resolve_left (Ne.symm hne)
   have g1 := (List.pairwise_cons.1 h1).1 b hb
   have g2 := (List.pairwise_cons.1 h2).1 a ha
   rcases bef_total (ht a List.mem_cons_self b (List.mem_cons_of_mem _ hb) hne) with g | g
   ·rw [g] at g2; cases g2
   ·rw [g] at g1; cases g1
  subst e
  rw [srt_uniq ((List.perm_cons a).1 h) (List.pairwise_cons.1 h1).2 (List.pairwise_cons.1 h2).2 fun x hx y hy => ht x (List.mem_cons_of_mem _ hx) y (List.mem_cons_of_mem _ hy)]
end Go.Proofs.YtecdhmiamlgibaaDoor
/- Sd39: The reasons, in the reference's words and in the table's (plain); no condition. -/
namespace Go.Proofs.YtecdhmiamlgibaaDoor
set_option linter.unusedVariables false
set_option linter.unusedSimpArgs false
set_option linter.unusedSectionVars false
open Go.RowKit
set_option maxRecDepth 100000
theorem listS_rng (s : BitVec 128) : listS s = ((List.range 128).map fun i : Nat => ((i : Int) + 1)).filter fun v => sHas s v := by
 unfold listS wVars bitsW
 rw [show (128 : Nat) = 64 + 64 from rfl, List.range_add, List.map_append, List.filter_append, List.filter_map]
 congr 1
 ·have e : (List.range 64).filter (fun i => (lo s).toNat.testBit i) = (List.range 64).filter ((fun v => sHas s v) ∘ fun i : Nat => ((i : Int) + 1)) := List.filter_congr fun i hi => by
   rw [List.mem_range] at hi
   show (lo s).toNat.testBit i = sHas s ((i : Int) + 1)
   rw [sHas_lo s _ (by omega) (by omega), show ((i : Int) + 1 - 1).toNat = i by omega]; rfl
  rw [e]
  apply List.map_congr_left
  intro i _
  show ((1 + i : Nat) : Int) = (i : Int) + 1
  omega
 ·rw [List.map_map, List.filter_map]
  have e : (List.range 64).filter (fun i => (hi s).toNat.testBit i) = (List.range 64).filter ((fun v => sHas s v) ∘ ((fun i : Nat => ((i : Int) + 1)) ∘ fun x => 64 + x)) := List.filter_congr fun i hi' => by
   rw [List.mem_range] at hi'
   show (hi s).toNat.testBit i = sHas s (((64 + i : Nat) : Int) + 1)
   rw [sHas_hi s _ (by omega) (by omega), show (((64 + i : Nat) : Int) + 1 - 65).toNat = i by omega]; rfl
  rw [e]
  apply List.map_congr_left
  intro i _
  show ((65 + i : Nat) : Int) = ((64 + i : Nat) : Int) + 1
  omega
theorem listS_sub {m s : BitVec 128} (h : ∀ v, sHas s v = true → sHas m v = true) : listS s = (listS m).filter fun v => sHas s v := by
 rw [listS_rng, listS_rng m, List.filter_filter]
 refine List.filter_congr fun v _ => ?_
 cases e : sHas s v with
 | false => rfl
 | true => rw [h v e]; rfl
def termS (a s : BitVec 128) : List Int := (listS s).map fun v => if sHas a v = true then v else -v
theorem termL_eq (a : BitVec 128) : ∀ {vs : List Int}, okVs vs → ∀ P : Nat, termL vs (idxN vs a) P = (vs.filter fun v => sHas (setX vs P) v).map fun v => if sHas a v = true then v else -v
 | [], _, P => rfl
 | v :: r, h, P => by
  have hr : okVs r := ⟨(List.nodup_cons.1 h.1).2, fun w hw => h.2 w (List.mem_cons_of_mem _ hw)⟩
  have hn := (List.nodup_cons.1 h.1).1
  have e1 : idxN (v :: r) a % 2 = 1 ↔ sHas a v = true := by
   unfold idxN
   cases sHas a v <;> simp <;> omega
  have e2 : idxN (v :: r) a / 2 = idxN r a := by
   show ((if sHas a v = true then 1 else 0) + 2 * idxN r a) / 2 = idxN r a
   generalize idxN r a = q
   split <;> omega
  have e3 : (r.filter fun u => sHas (setX (v :: r) P) u) = r.filter fun u => sHas (setX r (P / 2)) u := List.filter_congr fun u hu => by
   have hne : ¬ v = u := fun e => hn (e ▸ hu)
   rw [setX_has h, setX_has hr]
   show (match (if v = u then some 0 else (posV r u).map (· + 1)) with | some p => P.testBit p | none => false) = _
   rw [if_neg hne]
   cases posV r u with
   | none => rfl
   | some p => show P.testBit (p + 1) = _; rw [Nat.testBit_succ]
  have e4 : sHas (setX (v :: r) P) v = decide (P % 2 = 1) := by
   rw [setX_has h]
   show (match (if v = v then some 0 else (posV r v).map (· + 1)) with | some p => P.testBit p | none => false) = _
   rw [if_pos rfl]
   show P.testBit 0 = _
   rw [Nat.testBit_zero]
  unfold termL
  rw [e2, termL_eq a hr, List.filter_cons, e4, e3]
  by_cases hP : P % 2 = 1
  ·rw [if_pos hP, if_pos (decide_eq_true hP), List.map_cons]
   congr 1
   by_cases ha : sHas a v = true
   ·rw [if_pos (e1.2 ha), if_pos ha]
   ·rw [if_neg (fun h => ha (e1.1 h)), if_neg ha]
  ·rw [if_neg hP, if_neg (by simpa using hP)]
theorem setX_in {vs : List Int} (h : okVs vs) {P : Nat} {v : Int} (hv : sHas (setX vs P) v = true) : v ∈ vs := by
 rw [setX_has h] at hv
 exact Decidable.byContradiction fun hn => by rw [posV_none hn] at hv; cases hv
theorem termS_eq (m a : BitVec 128) (P : Nat) : termS a (setX (listS m) P) = termL (listS m) (idxN (listS m) a) P := by
 have hvs := listS_vs m
 unfold termS
 rw [termL_eq a hvs, ← listS_sub fun v hv => (listS_mem _ _).1 (setX_in hvs hv)]
theorem termS_abs (a s : BitVec 128) : (termS a s).map absR = listS s := by
 unfold termS
 rw [List.map_map]
 refine (List.map_congr_left (g := id) fun v hv => ?_).trans (List.map_id _)
 have := (listS_vs s).2 v hv
 show absR (if sHas a v = true then v else -v) = v
 unfold absR
 split <;> omega
def refR (ns : List Nd) (a : BitVec 128) : List (List Int) := (((subsL (listS (matS ns))).filter (resnB ns a)).map (termS a)).foldl putR []
theorem refR_eq {N : Int} {ns : List Nd} (h : validN N ns = true) (a : BitVec 128) : refR ns a = ((reasonsP (resF ns (listS (matS ns))) (listS (matS ns)).length (idxN (listS (matS ns)) a)).map (termL (listS (matS ns)) (idxN (listS (matS ns)) a))).foldl putR [] := by
 unfold refR reasonsP
 rw [subs_eq, List.filter_map, List.map_map]
 congr 1
 have e : (List.range (2 ^ (listS (matS ns)).length)).filter (resnB ns a ∘ setX (listS (matS ns))) = (List.range (2 ^ (listS (matS ns)).length)).filter (leastB (resF ns (listS (matS ns))) (listS (matS ns)).length (idxN (listS (matS ns)) a)) := List.filter_congr fun P hP => resn_eq h a (List.mem_range.1 hP)
 rw [e]
 exact List.map_congr_left fun P _ => termS_eq _ _ _
theorem reasons_uniq {N : Int} {ns : List Nd} (h : validN N ns = true) (a : BitVec 128) {l : List (List Int)} (hp : l.Perm ((reasonsP (resF ns (listS (matS ns))) (listS (matS ns)).length (idxN (listS (matS ns)) a)).map (termL (listS (matS ns)) (idxN (listS (matS ns)) a)))) (hs : SrtR l) : l = refR ns a := by
 rw [refR_eq h]
 obtain ⟨g1, g2⟩ := puts_ok ((reasonsP (resF ns (listS (matS ns))) (listS (matS ns)).length (idxN (listS (matS ns)) a)).map (termL (listS (matS ns)) (idxN (listS (matS ns)) a))) [] List.Pairwise.nil
 rw [List.append_nil] at g2
 refine srt_uniq (hp.trans g2.symm) hs g1 fun x hx y hy hne hab => hne ?_
 obtain ⟨P, hP, rfl⟩ := List.mem_map.1 (hp.mem_iff.1 hx)
 obtain ⟨Q, hQ, rfl⟩ := List.mem_map.1 (hp.mem_iff.1 hy)
 rw [← termS_eq, ← termS_eq, termS_abs, termS_abs] at hab
 have hvs := listS_vs (matS ns)
 have e : ∀ u, sHas (setX (listS (matS ns)) P) u = sHas (setX (listS (matS ns)) Q) u := fun u => by
  rw [Bool.eq_iff_iff, ← listS_mem, ← listS_mem, hab]
 have e2 : P = Q := by
  rw [← idx_set hvs (reasonsP_mem.1 hP).1, ← idx_set hvs (reasonsP_mem.1 hQ).1]
  apply Nat.eq_of_testBit_eq
  intro p
  by_cases hpl : p < (listS (matS ns)).length
  ·rw [idx_at hvs.1 _ hpl, idx_at hvs.1 _ hpl, e]
  ·rw [idx_out _ _ (by omega), idx_out _ _ (by omega)]
 rw [e2]
end Go.Proofs.YtecdhmiamlgibaaDoor
/- Sf39: The order of assignments, and the least one (plain); no condition. -/
namespace Go.Proofs.YtecdhmiamlgibaaDoor
set_option linter.unusedVariables false
set_option linter.unusedSimpArgs false
set_option linter.unusedSectionVars false
open Go.RowKit
set_option maxRecDepth 100000
def lessS (a b : BitVec 128) : Bool := match (List.range 128).find? fun i : Nat => sHas a ((i : Int) + 1) != sHas b ((i : Int) + 1) with
 | some i => sHas b ((i : Int) + 1)
 | none => false
theorem less_at {a b : BitVec 128} {i : Nat} (hi : i < 128) (h : sHas a ((i : Int) + 1) ≠ sHas b ((i : Int) + 1)) (hb : ∀ j : Nat, j < i → sHas a ((j : Int) + 1) = sHas b ((j : Int) + 1)) : lessS a b = sHas b ((i : Int) + 1) := by
 have e : ((List.range 128).find? fun i : Nat => sHas a ((i : Int) + 1) != sHas b ((i : Int) + 1)) = some i := by
  rw [List.find?_range_eq_some]
  exact ⟨by simpa using h, List.mem_range.2 hi, fun j hj => by simp [hb j hj]⟩
 unfold lessS
 rw [e]
theorem less_no {a b : BitVec 128} (hb : ∀ j : Nat, j < 128 → sHas a ((j : Int) + 1) = sHas b ((j : Int) + 1)) : lessS a b = false := by
 have e : ((List.range 128).find? fun i : Nat => sHas a ((i : Int) + 1) != sHas b ((i : Int) + 1)) = none := by
  rw [List.find?_eq_none]
  intro j hj
  simp [hb j (List.mem_range.1 hj)]
 unfold lessS
 rw [e]
theorem lt_bit {x y i : Nat} (hx : x.testBit i = false) (hy : y.testBit i = true) (h : ∀ j, i < j → x.testBit j = y.testBit j) : x < y := by
 have e : x / 2 ^ (i + 1) = y / 2 ^ (i + 1) := by
  apply Nat.eq_of_testBit_eq
  intro j
  rw [← Nat.shiftRight_eq_div_pow, ← Nat.shiftRight_eq_div_pow, Nat.testBit_shiftRight, Nat.testBit_shiftRight]
  exact h _ (by omega)
 rw [Nat.pow_succ, ← Nat.div_div_eq_div_mul, ← Nat.div_div_eq_div_mul] at e
 rw [Nat.testBit_eq_decide_div_mod_eq, decide_eq_false_iff_not] at hx
 rw [Nat.testBit_eq_decide_div_mod_eq, decide_eq_true_eq] at hy
 refine Decidable.byContradiction fun hc => ?_
 have := Nat.div_le_div_right (c := 2 ^ i) (Nat.le_of_not_lt hc)
 omega
theorem first_diff {n x y : Nat} (hx : x < 2 ^ n) (hy : y < 2 ^ n) (hne : x ≠ y) : ∃ p, p < n ∧ x.testBit p ≠ y.testBit p ∧ ∀ q, q < p → x.testBit q = y.testBit q := by
 have hex : ∃ p, x.testBit p ≠ y.testBit p := Classical.byContradiction fun hc => hne (Nat.eq_of_testBit_eq fun i => Decidable.byContradiction fun h => hc ⟨i, h⟩)
 have hmin : ∀ m, x.testBit m ≠ y.testBit m → ∃ p, x.testBit p ≠ y.testBit p ∧ ∀ q, q < p → x.testBit q = y.testBit q := by
  intro m
  induction m using Nat.strongRecOn with
  | _ m ih =>
   intro hm
   by_cases h : ∃ q, q < m ∧ x.testBit q ≠ y.testBit q
   ·obtain ⟨q, h1, h2⟩ := h
    exact ih q h1 h2
   ·exact ⟨m, hm, fun q hq => Decidable.byContradiction fun hc => h ⟨q, hq, hc⟩⟩
 obtain ⟨m, hm⟩ := hex
 obtain ⟨p, h1, h2⟩ := hmin m hm
 refine ⟨p, Decidable.byContradiction fun hc => h1 ?_, h1, h2⟩
 have hp : 2 ^ n ≤ 2 ^ p := Nat.pow_le_pow_right (by omega) (by omega)
 rw [Nat.testBit_lt_two_pow (Nat.lt_of_lt_of_le hx hp), Nat.testBit_lt_two_pow (Nat.lt_of_lt_of_le hy hp)]
theorem less_rev {vs : List Int} (hs : vs.Pairwise (· < ·)) (h : okVs vs) {rv : Nat → Nat} (hr : ∀ x, x < 2 ^ vs.length → ∀ j, (rv x).testBit j = (decide (j < vs.length) && x.testBit (vs.length - 1 - j))) {x y : Nat} (hx : x < 2 ^ vs.length) (hy : y < 2 ^ vs.length) : lessS (setX vs x) (setX vs y) = decide (rv x < rv y) := by
 by_cases he : x = y
 ·subst he
  rw [less_no fun _ _ => rfl, decide_eq_false (by omega)]
 obtain ⟨p, hp, hd, hq⟩ := first_diff hx hy he
 have hsort : ∀ i j, i < j → j < vs.length → vs.getD i 0 < vs.getD j 0 := fun i j hij hj => by
  have := List.pairwise_iff_getElem.1 hs i j (by omega) hj hij
  simpa [List.getD, hj, show i < vs.length by omega] using this
 have hb : ∀ z q, q < vs.length → sHas (setX vs z) (vs.getD q 0) = z.testBit q := fun z q hq => by rw [setX_has h, posV_get h.1 hq]
 have hv := h.2 (vs.getD p 0) (by simp [List.getD, hp])
 have hcast : (((vs.getD p 0 - 1).toNat : Nat) : Int) + 1 = vs.getD p 0 := by omega
 have hl : lessS (setX vs x) (setX vs y) = y.testBit p := by
  rw [less_at (i := (vs.getD p 0 - 1).toNat) (by omega) (by rw [hcast, hb x p hp, hb y p hp]; exact hd) fun j hj => ?_, hcast, hb y p hp]
  rw [setX_has h, setX_has h]
  by_cases hm : ((j : Int) + 1) ∈ vs
  ·obtain ⟨q, h1, h2, h3⟩ := posV_some hm
   rw [h1]
   have hlt : q < p := Decidable.byContradiction fun hc => by
    by_cases e : q = p
    ·subst e; omega
    ·have := hsort p q (by omega) h2
     omega
   exact hq q hlt
  ·rw [posV_none hm]
 rw [hl]
 have hj : vs.length - 1 - (vs.length - 1 - p) = p := by omega
 have bx := hr x hx (vs.length - 1 - p)
 have by' := hr y hy (vs.length - 1 - p)
 rw [hj, decide_eq_true (by omega : vs.length - 1 - p < vs.length), Bool.true_and] at bx by'
 have habove : ∀ i, vs.length - 1 - p < i → (rv x).testBit i = (rv y).testBit i := fun i hi => by
  rw [hr x hx, hr y hy]
  by_cases hin : i < vs.length
  ·rw [hq (vs.length - 1 - i) (by omega)]
  ·rw [decide_eq_false hin]; rfl
 cases hyp : y.testBit p with
 | true =>
  have hxp : x.testBit p = false := by
   cases e : x.testBit p with
   | false => rfl
   | true => rw [e, hyp] at hd; exact absurd rfl hd
  rw [hxp] at bx
  rw [hyp] at by'
  exact (decide_eq_true (lt_bit bx by' habove)).symm
 | false =>
  have hxp : x.testBit p = true := by
   cases e : x.testBit p with
   | true => rfl
   | false => rw [e, hyp] at hd; exact absurd rfl hd
  rw [hxp] at bx
  rw [hyp] at by'
  have := lt_bit by' bx fun i hi => (habove i hi).symm
  exact (decide_eq_false (by omega)).symm
def bestN (c : Nat → Bool) (key : Nat → Nat) (M : Nat) : Option Nat := (List.range M).foldl (fun o k => if (c k && (match o with | none => true | some b => decide (key k < key b))) = true then some k else o) none
theorem best_succ (c : Nat → Bool) (key : Nat → Nat) (M : Nat) : bestN c key (M + 1) = if (c M && (match bestN c key M with | none => true | some b => decide (key M < key b))) = true then some M else bestN c key M := by
 unfold bestN
 rw [List.range_succ, List.foldl_append]
 rfl
theorem best_ok (c : Nat → Bool) (key : Nat → Nat) : ∀ M, (bestN c key M = none ∧ ∀ k, k < M → c k = false) ∨ ∃ b, bestN c key M = some b ∧ b < M ∧ c b = true ∧ ∀ k, k < M → c k = true → key b ≤ key k
 | 0 => .inl ⟨rfl, fun k hk => by omega⟩
 | M + 1 => by
  rw [best_succ]
  rcases best_ok c key M with ⟨h1, h2⟩ | ⟨b, h1, h2, h3, h4⟩
  ·rw [h1]
   cases hc : c M with
   | false =>
    exact .inl ⟨by simp, fun k hk => by
     by_cases e : k = M
     ·rw [e]; exact hc
     ·exact h2 k (by omega)⟩
   | true =>
    refine .inr ⟨M, by simp, by omega, hc, fun k hk hck => ?_⟩
    by_cases e : k = M
    ·rw [e]; exact Nat.le_refl _
    ·rw [h2 k (by omega)] at hck; cases hck
  ·rw [h1]
   by_cases hw : c M = true ∧ key M < key b
   ·refine .inr ⟨M, by simp [hw.1, hw.2], by omega, hw.1, fun k hk hck => ?_⟩
    by_cases e : k = M
    ·rw [e]; exact Nat.le_refl _
    ·have := h4 k (by omega) hck; omega
   ·refine .inr ⟨b, ?_, by omega, h3, fun k hk hck => ?_⟩
    ·rw [if_neg]
     simpa using hw
    ·by_cases e : k = M
     ·subst e
      have : ¬ key k < key b := fun h => hw ⟨hck, h⟩
      omega
     ·exact h4 k (by omega) hck
theorem best_first {c : Nat → Bool} {rv : Nat → Nat} {n : Nat} (h1 : ∀ x, x < 2 ^ n → rv x < 2 ^ n) (h2 : ∀ x, x < 2 ^ n → rv (rv x) = x) : bestN c rv (2 ^ n) = ((List.range (2 ^ n)).find? fun i => c (rv i)).map rv := by
 rcases best_ok c rv (2 ^ n) with ⟨g1, g2⟩ | ⟨b, g1, g2, g3, g4⟩
 ·have e : ((List.range (2 ^ n)).find? fun i => c (rv i)) = none := by
   rw [List.find?_eq_none]
   intro i hi
   rw [g2 _ (h1 i (List.mem_range.1 hi))]; decide
  rw [g1, e]; rfl
 ·have e : ((List.range (2 ^ n)).find? fun i => c (rv i)) = some (rv b) := by
   rw [List.find?_range_eq_some]
   refine ⟨by rw [h2 b g2]; exact g3, List.mem_range.2 (h1 b g2), fun j hj => ?_⟩
   cases hc : c (rv j) with
   | false => rfl
   | true =>
    have hjn : j < 2 ^ n := Nat.lt_trans hj (h1 b g2)
    have := g4 (rv j) (h1 j hjn) hc
    rw [h2 j hjn] at this
    omega
  rw [g1, e]
  show some b = some (rv (rv b))
  rw [h2 b g2]
end Go.Proofs.YtecdhmiamlgibaaDoor
/- Sg39: Biased and necessary, in the reference's words and in the table's (plain); no condition. -/
namespace Go.Proofs.YtecdhmiamlgibaaDoor
set_option linter.unusedVariables false
set_option linter.unusedSimpArgs false
set_option linter.unusedSectionVars false
open Go.RowKit
set_option maxRecDepth 100000
theorem chg_congr {f g : Nat → Bool} {n at0 m : Nat} (h : ∀ i, i < 2 ^ n → f i = g i) (ha : at0 < 2 ^ n) (hm : m < 2 ^ n) : chgB f n at0 m = chgB g n at0 m := by
 have hd : ∀ d, (∀ p, d.testBit p = true → m.testBit p = true) → at0 ^^^ d < 2 ^ n := fun d hd => by
  apply Nat.lt_pow_two_of_testBit
  intro p hp
  have e : ∀ z, z < 2 ^ n → z.testBit p = false := fun z hz => Nat.testBit_lt_two_pow (Nat.lt_of_lt_of_le hz (Nat.pow_le_pow_right (by omega) hp))
  rw [Nat.testBit_xor, e _ ha]
  cases hdp : d.testBit p with
  | false => rfl
  | true => rw [← hd p hdp, e _ hm]; rfl
 rw [Bool.eq_iff_iff, chg_iff hm, chg_iff hm]
 constructor
 ·rintro ⟨d, h1, h2⟩
  exact ⟨d, h1, by rw [← h _ (hd d h1), ← h _ ha]; exact h2⟩
 ·rintro ⟨d, h1, h2⟩
  exact ⟨d, h1, by rw [h _ (hd d h1), h _ ha]; exact h2⟩
theorem on_res {vs : List Int} {ns : List Nd} {i : Nat} (h : i < 2 ^ vs.length) : (onL vs ns).getD i false = resF ns vs i := by
 unfold onL resF
 simp [List.getD, h]
theorem biased_eq {N : Int} {ns : List Nd} (h : validN N ns = true) (a p : BitVec 128) : suffB ns a (matS ns &&& ~~~ p) = !chgB (resF ns (listS (matS ns))) (listS (matS ns)).length (idxN (listS (matS ns)) a) (idxN (listS (matS ns)) p) := by
 rw [suffB_eq h]
 have hvs := listS_vs (matS ns)
 have hm := fun v => listS_mem (matS ns) v
 congr 2
 apply Nat.eq_of_testBit_eq
 intro q
 rw [cmpl_bit]
 by_cases hq : q < (listS (matS ns)).length
 ·have hin : (listS (matS ns)).getD q 0 ∈ listS (matS ns) := by simp [List.getD, hq]
  have hr := hvs.2 _ hin
  rw [idx_at hvs.1 _ hq, idx_at hvs.1 _ hq, sHas_and, (hm _).1 hin, sHas_not _ _ hr.1 hr.2, decide_eq_true hq]
  cases sHas p _ <;> rfl
 ·rw [idx_out _ _ (by omega), idx_out _ _ (by omega), decide_eq_false hq]; rfl
def allIn (l : List (List Int)) (x : Int) : Bool := decide ((l.map fun r => r.countP fun y => decide (y = x)).sum = l.length)
theorem count_one : ∀ {l : List (List Int)} {x : Int}, (∀ r ∈ l, r.Nodup) → ((l.map fun r => r.countP fun y => decide (y = x)).sum ≤ l.length ∧ ((l.map fun r => r.countP fun y => decide (y = x)).sum = l.length ↔ ∀ r ∈ l, x ∈ r))
 | [], x, _ => by simp
 | r :: l, x, h => by
  obtain ⟨h1, h2⟩ := count_one (l := l) (x := x) fun r hr => h r (List.mem_cons_of_mem _ hr)
  have hn := h r List.mem_cons_self
  have hc : r.countP (fun y => decide (y = x)) = if x ∈ r then 1 else 0 := by
   clear h h1 h2
   induction r with
   | nil => rfl
   | cons y r ih =>
    obtain ⟨g1, g2⟩ := List.nodup_cons.1 hn
    rw [List.countP_cons, ih g2]
    by_cases e : y = x
    ·subst e
     simp [g1]
    ·have e2 : ¬ x = y := fun h => e h.symm
     simp [e, e2]
  rw [List.map_cons, List.sum_cons, List.length_cons, hc]
  constructor
  ·split <;> omega
  ·constructor
   ·intro hs
    have hx : x ∈ r := Decidable.byContradiction fun hx => by rw [if_neg hx] at hs; omega
    rw [if_pos hx] at hs
    intro r' hr'
    rcases List.mem_cons.1 hr' with rfl | hr'
    ·exact hx
    ·exact h2.1 (by omega) r' hr'
   ·intro hall
    rw [if_pos (hall r List.mem_cons_self), h2.2 fun r' hr' => hall r' (List.mem_cons_of_mem _ hr')]
    omega
theorem term_memS {vs : List Int} (h : okVs vs) (a : BitVec 128) (P : Nat) {k : Nat} (hk : k < vs.length) : (if sHas a (vs.getD k 0) = true then vs.getD k 0 else -vs.getD k 0) ∈ termL vs (idxN vs a) P ↔ P.testBit k = true := by
 have hin : vs.getD k 0 ∈ vs := by simp [List.getD, hk]
 rw [termL_eq a h, List.mem_map]
 have hb : sHas (setX vs P) (vs.getD k 0) = P.testBit k := by rw [setX_has h, posV_get h.1 hk]
 constructor
 ·rintro ⟨v, hv, he⟩
  obtain ⟨h1, h2⟩ := List.mem_filter.1 hv
  have r1 := h.2 _ hin
  have r2 := h.2 _ h1
  have : v = vs.getD k 0 := by
   split at he <;> split at he <;> omega
  rw [← hb, ← this]; exact h2
 ·intro hp
  exact ⟨_, List.mem_filter.2 ⟨hin, by rw [hb]; exact hp⟩, rfl⟩
theorem term_nodup {vs : List Int} (h : okVs vs) (a : BitVec 128) (P : Nat) : (termL vs (idxN vs a) P).Nodup := by
 rw [termL_eq a h]
 have hn : (vs.filter fun v => sHas (setX vs P) v).Nodup := List.Pairwise.filter _ h.1
 refine List.pairwise_map.2 (List.Pairwise.imp_of_mem (fun {x y} hx hy hne => ?_) hn)
 have r1 := h.2 x (List.mem_filter.1 hx).1
 have r2 := h.2 y (List.mem_filter.1 hy).1
 intro he
 apply hne
 split at he <;> split at he <;> omega
theorem nec_all {f : Nat → Bool} {n at0 k : Nat} (hk : k < n) : (∀ P ∈ reasonsP f n at0, P.testBit k = true) ↔ f (at0 ^^^ 2 ^ k) ≠ f at0 := by
 constructor
 ·intro hall
  intro heq
  have hm : 2 ^ k < 2 ^ n := Nat.pow_lt_pow_right (by omega) hk
  have hc : chgB f n at0 (2 ^ k) = false := by
   cases e : chgB f n at0 (2 ^ k) with
   | false => rfl
   | true =>
    obtain ⟨d, h1, h2⟩ := (chg_iff hm).1 e
    have hd : d = 0 ∨ d = 2 ^ k := by
     cases hb : d.testBit k with
     | false =>
      left
      apply Nat.eq_of_testBit_eq
      intro p
      rw [Nat.zero_testBit]
      cases hp : d.testBit p with
      | false => rfl
      | true =>
       have := h1 p hp
       rw [Nat.testBit_two_pow, decide_eq_true_eq] at this
       subst this
       rw [hb] at hp; cases hp
     | true =>
      right
      apply Nat.eq_of_testBit_eq
      intro p
      rw [Nat.testBit_two_pow]
      by_cases e : k = p
      ·subst e; rw [hb, decide_eq_true rfl]
      ·rw [decide_eq_false e]
       cases hp : d.testBit p with
       | false => rfl
       | true =>
        have := h1 p hp
        rw [Nat.testBit_two_pow, decide_eq_true_eq] at this
        exact absurd this e
    rcases hd with rfl | rfl
    ·rw [Nat.xor_zero] at h2; exact absurd rfl h2
    ·exact absurd heq h2
  obtain ⟨P, h1, h2, h3⟩ := (free_iff hm).2 hc
  have h4 := hall P (reasonsP_mem.2 ⟨h1, h2⟩)
  have h5 := h3 k h4
  rw [Nat.testBit_two_pow, decide_eq_true rfl] at h5
  cases h5
 ·intro hne P hP
  obtain ⟨h1, h2⟩ := reasonsP_mem.1 hP
  exact need_in h1 h2 hk hne
end Go.Proofs.YtecdhmiamlgibaaDoor
/- Sh39: The necessary literals, as the reference finds them (plain); no condition. -/
namespace Go.Proofs.YtecdhmiamlgibaaDoor
set_option linter.unusedVariables false
set_option linter.unusedSimpArgs false
set_option linter.unusedSectionVars false
open Go.RowKit
set_option maxRecDepth 100000
def refN (ns : List Nd) (a : BitVec 128) : List Int := (termS a (matS ns)).filter (allIn (refR ns a))
theorem refN_eq {N : Int} {ns : List Nd} (h : validN N ns = true) (a : BitVec 128) {Z : Nat} (hZ : ∀ p, Z.testBit p = (decide (p < (listS (matS ns)).length) && (resF ns (listS (matS ns)) (idxN (listS (matS ns)) a ^^^ 2 ^ p) != resF ns (listS (matS ns)) (idxN (listS (matS ns)) a)))) : refN ns a = termL (listS (matS ns)) (idxN (listS (matS ns)) a) Z := by
 have hvs := listS_vs (matS ns)
 obtain ⟨g1, g2⟩ := puts_ok ((reasonsP (resF ns (listS (matS ns))) (listS (matS ns)).length (idxN (listS (matS ns)) a)).map (termL (listS (matS ns)) (idxN (listS (matS ns)) a))) [] List.Pairwise.nil
 rw [← refR_eq h, List.append_nil] at g2
 rw [termL_eq a hvs]
 unfold refN termS
 rw [List.filter_map]
 congr 1
 refine List.filter_congr fun v hv => ?_
 obtain ⟨k, h1, h2, h3⟩ := posV_some hv
 show allIn (refR ns a) (if sHas a v = true then v else -v) = sHas (setX (listS (matS ns)) Z) v
 rw [setX_has hvs, h1]
 show _ = Z.testBit k
 rw [hZ k, decide_eq_true h2, Bool.true_and]
 unfold allIn
 rw [Bool.eq_iff_iff, decide_eq_true_eq, bne_iff_ne, ← nec_all h2]
 have hnd : ∀ r ∈ refR ns a, r.Nodup := fun r hr => by
  obtain ⟨P, _, rfl⟩ := List.mem_map.1 (g2.mem_iff.1 hr)
  exact term_nodup hvs a P
 rw [(count_one hnd).2]
 constructor
 ·intro hall P hP
  have := hall _ (g2.mem_iff.2 (List.mem_map.2 ⟨P, hP, rfl⟩))
  rw [← h3] at this
  exact (term_memS hvs a P h2).1 this
 ·intro hall r hr
  obtain ⟨P, hP, rfl⟩ := List.mem_map.1 (g2.mem_iff.1 hr)
  rw [← h3]
  exact (term_memS hvs a P h2).2 (hall P hP)
end Go.Proofs.YtecdhmiamlgibaaDoor
