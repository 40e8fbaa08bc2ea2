/- Necessary literals and enough literals (plain); no condition. -/
import Derived.Test.YtecdhmiamlgibaaDoorPsG
namespace Go.Proofs.YtecdhmiamlgibaaDoor
set_option linter.unusedVariables false
set_option linter.unusedSimpArgs false
set_option linter.unusedSectionVars false
open Go.RowKit
set_option maxRecDepth 100000
theorem vars_le {N : Int} {ns : List Nd} (h : validN N ns = true) : ∀ i, i < ns.length → ∀ v, sHas ((varsL ns).getD i 0#128) v = true → v ≤ N := by
 intro i
 induction i using Nat.strongRecOn with
 | _ i ih =>
  intro hi v hv
  unfold varsL at hv
  rw [scanN_get _ ns _ hi, nodeS_has, Bool.or_eq_true, List.any_eq_true] at hv
  have hf := valid_form h hi
  generalize ns.getD i nd0 = x at hf hv
  rcases hv with hv | ⟨k, hk, hv⟩
  ·rw [sHas_bit, decide_eq_true_eq] at hv
   obtain ⟨rfl, h1, h2⟩ := hv
   obtain ⟨n0, n1⟩ := valid_N h
   unfold formB at hf
   rw [Bool.and_eq_true] at hf
   have h3 := hf.2
   clear ih hf
   have hz : x.2.1 = 0 → litVar x.2.1 ≤ N := fun e => by rw [e, show litVar 0 = 0 from rfl]; exact n0
   split at h3
   ·rw [Bool.and_eq_true, decide_eq_true_eq] at h3; exact hz h3.1
   ·split at h3
    ·unfold litOk at h3
     simp only [Bool.and_eq_true, decide_eq_true_eq] at h3
     exact h3.1.2
    ·split at h3
     ·exact hz (of_decide_eq_true h3)
     ·cases h3
  ·obtain ⟨k0, k1⟩ := form_in hf hk
   have hlt : k.toNat < i := by omega
   refine ih k.toNat hlt (by omega) v ?_
   have e := scanN_pre nodeS ns 0#128 ns.length i (by omega) (Nat.le_refl _) k.toNat hlt
   rw [List.take_length] at e
   unfold varsL
   rw [e]; exact hv
theorem mat_mem {ns : List Nd} {v : Int} : v ∈ matL ns ↔ sHas (matS ns) v = true := listS_mem _ _
theorem mat_le {N : Int} {ns : List Nd} (h : validN N ns = true) {v : Int} (hv : v ∈ matL ns) : v ≤ N :=
 vars_le h _ (by have := valid_len h; omega) v (mat_mem.1 hv)
theorem listS_sorted (s : BitVec 128) : (listS s).Pairwise (· < ·) := by
 rw [← listT_eq]
 unfold listT
 exact List.Pairwise.map (R := (· < ·)) _ (fun a b h => by omega) (List.Pairwise.filter _ List.pairwise_lt_range)
theorem tab_eval {N : Int} {ns : List Nd} (h : validN N ns = true) (h16 : (matL ns).length ≤ 16) (b : BitVec 128) : evalR ns b = tabF ns (idxN (matL ns) b) := by
 obtain ⟨hvs, _⟩ := okV_vs (matL_ok h16)
 rw [eval_on h hvs (fun v hv => mat_mem.2 hv) b]
 have hlt := idxN_lt (matL ns) b
 unfold tabF onL
 simp [List.getD, hlt]
def flipS (a : BitVec 128) (v : Int) : BitVec 128 := if sHas a v = true then sWithout a v else sWith a v
theorem flip_has (a : BitVec 128) {v : Int} (h1 : 1 ≤ v) (h2 : v ≤ 128) (u : Int) : sHas (flipS a v) u = (sHas a u ^^ decide (u = v)) := by
 unfold flipS
 by_cases e : u = v
 ·subst e
  split
  ·rename_i h; rw [sHas_without, h]; simp
  ·rename_i h; rw [Bool.not_eq_true] at h; rw [sHas_with, h]; simp [h1, h2]
 ·rw [decide_eq_false e, Bool.xor_false]
  split
  ·rw [sHas_without, decide_eq_false e]; simp
  ·rw [sHas_with, decide_eq_false (fun h => e h.1), Bool.or_false]
theorem idx_ext {vs : List Int} (h : okVs vs) {b : BitVec 128} {y : Nat} (hy : y < 2 ^ vs.length) (hb : ∀ i, i < vs.length → sHas b (vs.getD i 0) = y.testBit i) : idxN vs b = y := by
 apply Nat.eq_of_testBit_eq
 intro i
 by_cases hi : i < vs.length
 ·rw [idx_bit h b hi, hb i hi]
 ·have h1 := idxN_lt vs b
  have hp : 2 ^ vs.length ≤ 2 ^ i := Nat.pow_le_pow_right (by omega) (by omega)
  rw [Nat.testBit_lt_two_pow (by omega : idxN vs b < 2 ^ i), Nat.testBit_lt_two_pow (by omega : y < 2 ^ i)]
theorem idx_flip {vs : List Int} (h : okVs vs) (a : BitVec 128) {i : Nat} (hi : i < vs.length) : idxN vs (flipS a (vs.getD i 0)) = idxN vs a ^^^ 2 ^ i := by
 have hv := h.2 _ (gmemI hi)
 refine idx_ext h (Nat.xor_lt_two_pow (idxN_lt vs a) (Nat.pow_lt_pow_right (by omega) hi)) fun j hj => ?_
 rw [flip_has a hv.1 hv.2, Nat.testBit_xor, Nat.testBit_two_pow, idx_bit h a hj]
 congr 1
 rw [decide_eq_decide]
 exact ⟨fun e => (nodup_get h.1 hj hi e).symm, fun e => by rw [e]⟩
def wantB (N : Int) (ns : List Nd) (a : BitVec 128) (v : Int) : Bool := evalN N ns (flipS a v) != evalN N ns a
def litA (a : BitVec 128) (v : Int) : Int := if sHas a v = true then v else -v
def wantL (N : Int) (ns : List Nd) (a : BitVec 128) (k : Nat) : List Int := ((List.range k).filter fun i : Nat => wantB N ns a ((i : Int) + 1)).map fun i : Nat => litA a ((i : Int) + 1)
theorem wantL_succ (N : Int) (ns : List Nd) (a : BitVec 128) (k : Nat) : wantL N ns a (k + 1) = if wantB N ns a ((k : Int) + 1) = true then wantL N ns a k ++ [litA a ((k : Int) + 1)] else wantL N ns a k := by
 unfold wantL
 rw [List.range_succ, List.filter_append, List.map_append]
 split
 ·rename_i h; simp [h]
 ·rename_i h; simp [h]
theorem wantL_len (N : Int) (ns : List Nd) (a : BitVec 128) (k : Nat) : (wantL N ns a k).length ≤ k := by
 unfold wantL
 rw [List.length_map]
 exact Nat.le_trans (List.length_filter_le _ _) (by simp)
theorem litA_abs (a : BitVec 128) {v : Int} (h : 1 ≤ v) : absZ (litA a v) = v := by
 unfold litA absZ; split <;> omega
theorem term_sorted : ∀ {vs : List Int} (x P : Nat), (∀ v ∈ vs, 1 ≤ v) → vs.Pairwise (· < ·) → (termL vs x P).Pairwise (fun a b => absZ a < absZ b)
 | [], _, _, _, _ => List.Pairwise.nil
 | v :: r, x, P, h, hp => by
  have ih := term_sorted (vs := r) (x / 2) (P / 2) (fun u hu => h u (by simp [hu])) (List.pairwise_cons.1 hp).2
  unfold termL
  split
  ·refine List.pairwise_cons.2 ⟨fun l hl => ?_, ih⟩
   obtain ⟨i, hi, _, rfl⟩ := term_mem.1 hl
   have h1 := (List.pairwise_cons.1 hp).1 _ (gmemI hi)
   have h2 := h v (by simp)
   unfold absZ sgn
   split <;> split <;> omega
  ·exact ih
theorem want_sorted (N : Int) (ns : List Nd) (a : BitVec 128) (k : Nat) : (wantL N ns a k).Pairwise (fun a b => absZ a < absZ b) := by
 unfold wantL
 refine List.Pairwise.map (R := (· < ·)) _ (fun i j h => ?_) (List.Pairwise.filter _ List.pairwise_lt_range)
 rw [litA_abs a (by omega), litA_abs a (by omega)]; omega
theorem abs_ext {c d : List Int} (hc : c.Pairwise (fun a b => absZ a < absZ b)) (hd : d.Pairwise (fun a b => absZ a < absZ b)) (h : ∀ l, l ∈ c ↔ l ∈ d) : c = d := by
 have n1 : c.Nodup := hc.imp fun h e => by rw [e] at h; omega
 have n2 : d.Nodup := hd.imp fun h e => by rw [e] at h; omega
 have hp := (List.perm_ext_iff_of_nodup n1 n2).2 h
 exact List.Perm.eq_of_pairwise (le := fun a b => absZ a < absZ b) (fun a b _ _ h1 h2 => by omega) hc hd hp
def neeL (ns : List Nd) (a : BitVec 128) : List Int := termL (matL ns) (idxN (matL ns) a) (neeN (tabF ns) (idxN (matL ns) a) (matL ns).length)
theorem nee_want {N : Int} {ns : List Nd} {a : BitVec 128} (h : validN N ns = true) (h16 : (matL ns).length ≤ 16) : neeL ns a = wantL N ns a N.toNat := by
 obtain ⟨hvs, _⟩ := okV_vs (matL_ok h16)
 obtain ⟨n0, n1⟩ := valid_N h
 refine abs_ext (term_sorted _ _ (fun v hv => (hvs.2 v hv).1) (listS_sorted _)) (want_sorted N ns a _) fun l => ?_
 unfold neeL wantL
 rw [term_mem, List.mem_map]
 have hsg : ∀ i, i < (matL ns).length → sgn (matL ns) (idxN (matL ns) a) i = litA a ((matL ns).getD i 0) := fun i hi => by
  unfold sgn litA; rw [idx_bit hvs a hi]
 have hwb : ∀ i, i < (matL ns).length → wantB N ns a ((matL ns).getD i 0) = (tabF ns (idxN (matL ns) a ^^^ 2 ^ i) != tabF ns (idxN (matL ns) a)) := fun i hi => by
  unfold wantB evalN
  rw [h, Bool.true_and, Bool.true_and, tab_eval h h16, tab_eval h h16, idx_flip hvs a hi]
 constructor
 ·rintro ⟨i, hi, hb, rfl⟩
  have hv := hvs.2 _ (gmemI hi)
  have hle := mat_le h (gmemI hi)
  rw [neeN_bit, decide_eq_true hi, Bool.true_and, ← hwb i hi] at hb
  have e : ((((matL ns).getD i 0 - 1).toNat : Nat) : Int) + 1 = (matL ns).getD i 0 := by omega
  refine ⟨((matL ns).getD i 0 - 1).toNat, List.mem_filter.2 ⟨List.mem_range.2 (by omega), by rw [e]; exact hb⟩, ?_⟩
  rw [e, hsg i hi]
 ·rintro ⟨j, hj, rfl⟩
  obtain ⟨hj1, hj2⟩ := List.mem_filter.1 hj
  have hj3 := List.mem_range.1 hj1
  by_cases hm : ((j : Int) + 1) ∈ matL ns
  ·obtain ⟨i, h1, hi, h3⟩ := posV_some hm
   rw [← h3] at hj2 ⊢
   refine ⟨i, hi, ?_, (hsg i hi).symm⟩
   rw [neeN_bit, decide_eq_true hi, Bool.true_and, ← hwb i hi]; exact hj2
  ·exfalso
   unfold wantB evalN at hj2
   rw [h, Bool.true_and, Bool.true_and] at hj2
   rw [eval_dep h (a := flipS a ((j : Int) + 1)) (b := a) (fun v hv => by
    rw [flip_has a (by omega) (by omega), decide_eq_false (fun e => hm (by rw [← e]; exact mat_mem.2 hv)), Bool.xor_false])] at hj2
   simp at hj2
theorem nee_in {ns : List Nd} {a : BitVec 128} (h16 : (matL ns).length ≤ 16) {r : List Int} (hr : r ∈ reaX ns a) : inB (neeL ns a) r = true := by
 obtain ⟨P, h1, h2, rfl⟩ := reaX_mem.1 hr
 unfold inB
 rw [List.all_eq_true]
 intro l hl
 rw [memB_iff]
 obtain ⟨i, hi, hb, rfl⟩ := term_mem.1 hl
 rw [neeN_bit, decide_eq_true hi, Bool.true_and, bne_iff_ne] at hb
 exact term_mem.2 ⟨i, hi, need_in h1 h2 hi hb, rfl⟩
theorem neeL_ok {ns : List Nd} (a : BitVec 128) (h16 : (matL ns).length ≤ 16) : okInts (neeL ns a) = true := by
 obtain ⟨hvs, _⟩ := okV_vs (matL_ok h16)
 exact term_ok hvs h16 _ _
theorem neeA_bad {N : Int} {ns : List Nd} {a : BitVec 128} (h : (validN N ns && subB a N) = false) : neeA N ns a = .tup [.v (.slice none 0 0), .v (.int .i64 1)] := by unfold neeA; rw [if_pos h]
theorem neeA_long {N : Int} {ns : List Nd} {a : BitVec 128} (h : (validN N ns && subB a N) = true) (h16 : 16 < (matL ns).length) : neeA N ns a = .tup [.v (.slice none 0 0), .v (.int .i64 2)] := by unfold neeA; rw [if_neg (by rw [h]; decide), if_pos h16]
theorem neeA_ok {N : Int} {ns : List Nd} {a : BitVec 128} (h : (validN N ns && subB a N) = true) (h16 : (matL ns).length ≤ 16) : neeA N ns a = .tup [aInts (neeL ns a), .v (.int .i64 0)] := by unfold neeA neeL; rw [if_neg (by rw [h]; decide), if_neg (by omega)]
end Go.Proofs.YtecdhmiamlgibaaDoor
