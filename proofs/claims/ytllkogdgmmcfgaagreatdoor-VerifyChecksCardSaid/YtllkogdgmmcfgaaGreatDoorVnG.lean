/- The lowest bit of a word; math/bits.TrailingZeros64; no condition. -/
import Derived.Test.YtllkogdgmmcfgaaGreatDoorCvG
import Derived.Test.YtllkogdgmmcfgaaGreatDoorWl
import Derived.Test.YtllkogdgmmcfgaaGreatDoorAm20
import Derived.Test.YtllkogdgmmcfgaaGreatDoorTfG
import Derived.Test.YtllkogdgmmcfgaaGreatDoorFoG
import Derived.Test.YtllkogdgmmcfgaaGreatDoorAmB
import Derived.Test.YtllkogdgmmcfgaaGreatDoorNrG
/- Tz: The lowest bit of a word; math/bits.TrailingZeros64; no condition. -/
namespace Go.Proofs.YtllkogdgmmcfgaaGreatDoor
set_option linter.unusedVariables false
set_option linter.unusedSimpArgs false
set_option linter.unusedSectionVars false
open Go.RowKit
open Wlk
attribute [-simp] List.getD_eq_getElem?_getD
set_option maxRecDepth 100000
theorem low_ex : ∀ x : Nat, 0 < x → ∃ k m, x = 2 ^ k * (2 * m + 1) := by
 intro x
 induction x using Nat.strongRecOn with
 | _ x ih =>
  intro hx
  by_cases h : x % 2 = 1
  ·exact ⟨0, x / 2, by omega⟩
  ·obtain ⟨k, m, hk⟩ := ih (x / 2) (by omega) (by omega)
   refine ⟨k + 1, m, ?_⟩
   rw [Nat.pow_succ, Nat.mul_right_comm, ← hk]; omega
theorem low_lt {x k m n : Nat} (h : x = 2 ^ k * (2 * m + 1)) (hx : x < 2 ^ n) : k < n := by
 have h1 : 2 ^ k * 1 ≤ 2 ^ k * (2 * m + 1) := Nat.mul_le_mul_left _ (by omega)
 exact (Nat.pow_lt_pow_iff_right (a := 2) (by omega)).1 (by omega)
theorem odd_bit (m j : Nat) : (2 * m + 1).testBit j = (decide (j = 0) || (2 * m).testBit j) := by
 cases j with
 | zero => simp [Nat.testBit_zero]
 | succ j => simp [Nat.testBit_succ, show (2 * m + 1) / 2 = m by omega]
theorem even_bit (m : Nat) : (2 * m).testBit 0 = false := by simp [Nat.testBit_zero]
theorem low_neg {x k m : Nat} (h : x = 2 ^ k * (2 * m + 1)) (hx : x < 2 ^ 64) : x &&& (2 ^ 64 - x) = 2 ^ k := by
 have hk := low_lt h hx
 have e : 2 ^ 64 = 2 ^ k * 2 ^ (64 - k) := by rw [← Nat.pow_add]; congr 1; omega
 have hm : 2 * m < 2 ^ (64 - k) := by
  have : 2 ^ k * (2 * m + 1) < 2 ^ k * 2 ^ (64 - k) := by rw [← e, ← h]; exact hx
  have := Nat.lt_of_mul_lt_mul_left this
  omega
 have e2 : 2 ^ 64 - x = 2 ^ k * (2 ^ (64 - k) - (2 * m + 1)) := by rw [Nat.mul_sub, ← e, ← h]
 apply Nat.eq_of_testBit_eq
 intro i
 rw [Nat.testBit_and, e2, h, Nat.testBit_two_pow_mul, Nat.testBit_two_pow_mul, Nat.testBit_two_pow]
 by_cases hi : k ≤ i
 ·obtain ⟨j, rfl⟩ : ∃ j, i = k + j := ⟨i - k, by omega⟩
  rw [show k + j - k = j by omega, Nat.testBit_two_pow_sub_succ hm, odd_bit]
  by_cases hj : j = 0
  ·subst hj
   simp [even_bit]; omega
  ·simp [hj]; exact fun h _ => h
 ·simp [hi]; omega
theorem low_clear {x k m : Nat} (h : x = 2 ^ k * (2 * m + 1)) : x &&& (x - 1) = 2 ^ k * (2 * m) := by
 have hp := Nat.two_pow_pos k
 have e2 : x - 1 = 2 ^ k * (2 * m) + (2 ^ k - 1) := by rw [h, Nat.mul_add]; omega
 apply Nat.eq_of_testBit_eq
 intro i
 rw [Nat.testBit_and, e2, h, Nat.testBit_two_pow_mul, Nat.testBit_two_pow_mul, Nat.testBit_two_pow_mul_add _ (by omega)]
 by_cases hi : k ≤ i
 ·rw [if_neg (by omega), odd_bit]
  by_cases hj : i - k = 0
  ·simp [hj, even_bit]
  ·simp [hi, hj]
 ·simp [hi]
def bitsW (x : Nat) : List Nat := (List.range 64).filter fun i => x.testBit i
theorem bitsW_zero : bitsW 0 = [] := by simp [bitsW]
theorem bitsW_low {x k m : Nat} (h : x = 2 ^ k * (2 * m + 1)) (hx : x < 2 ^ 64) : bitsW x = k :: bitsW (2 ^ k * (2 * m)) := by
 have hk := low_lt h hx
 have hb : ∀ i, x.testBit i = (decide (i = k) || (2 ^ k * (2 * m)).testBit i) := fun i => by
  rw [h, Nat.testBit_two_pow_mul, Nat.testBit_two_pow_mul, odd_bit]
  by_cases hi : k ≤ i
  ·by_cases e : i = k
   ·subst e; simp
   ·simp [hi, e, show i - k ≠ 0 by omega]
  ·simp [hi]; omega
 have hlow : ∀ i, i ≤ k → (2 ^ k * (2 * m)).testBit i = false := fun i hi => by
  rw [Nat.testBit_two_pow_mul]
  by_cases e : i = k
  ·subst e; simp [even_bit]
  ·simp [show ¬ k ≤ i by omega]
 have e : List.range 64 = List.range k ++ k :: List.range' (k + 1) (63 - k) := by
  rw [List.range_eq_range', List.range_eq_range', show 64 = k + (1 + (63 - k)) by omega, ← List.range'_append_1, Nat.zero_add]
  rw [show k :: List.range' (k + 1) (63 - k) = List.range' k (1 + (63 - k)) by rw [Nat.add_comm 1, List.range'_succ]]
 unfold bitsW
 rw [e, List.filter_append, List.filter_append, List.filter_cons, List.filter_cons]
 have f1 : (List.range k).filter (fun i => x.testBit i) = [] := List.filter_eq_nil_iff.2 fun i hi => by
  have := List.mem_range.1 hi
  rw [hb, hlow i (by omega)]; simp; omega
 have f2 : (List.range k).filter (fun i => (2 ^ k * (2 * m)).testBit i) = [] := List.filter_eq_nil_iff.2 fun i hi => by
  have := List.mem_range.1 hi
  rw [hlow i (by omega)]; simp
 have f3 : (List.range' (k + 1) (63 - k)).filter (fun i => x.testBit i) = (List.range' (k + 1) (63 - k)).filter (fun i => (2 ^ k * (2 * m)).testBit i) := List.filter_congr fun i hi => by
  have := List.mem_range'_1.1 hi
  rw [hb, decide_eq_false (by omega)]; simp
 rw [f1, f2, f3, hb k, hlow k (Nat.le_refl _)]
 simp
theorem tz_table : (List.range 64).all (fun k => decide ((2 ^ k * 285870213051353865) % 18446744073709551616 / 288230376151711744 < 64) && (tabZ.getD ((2 ^ k * 285870213051353865) % 18446744073709551616 / 288230376151711744) 0 == (k : Int))) = true := by decide
theorem u64_wr (y : Int) : IntKind.u64.wrap y = y % 18446744073709551616 := rfl
theorem tz_f8 {x P : Nat} (hx : x < 18446744073709551616) (hx0 : x ≠ 0) (hP : P < 18446744073709551616) (hlow : x &&& (18446744073709551616 - x) = P) : IntKind.u64.wrap (((x % 2 ^ IntKind.u64.bits &&& (IntKind.u64.wrap (-(x : Int)) % 2 ^ IntKind.u64.bits).toNat : Nat)) : Int) = (P : Int) := by
 have hb : (2 : Nat) ^ IntKind.u64.bits = 18446744073709551616 := rfl
 have hb2 : (2 : Int) ^ IntKind.u64.bits = 18446744073709551616 := rfl
 have e1 : IntKind.u64.wrap (-(x : Int)) = ((18446744073709551616 - x : Nat) : Int) := by rw [u64_wr]; omega
 have e2 : ((18446744073709551616 - x : Nat) : Int) % 18446744073709551616 = ((18446744073709551616 - x : Nat) : Int) := by omega
 rw [e1, hb2, e2, hb, Nat.mod_eq_of_lt hx, Int.toNat_natCast, hlow, u64_wr]
 omega
theorem tz_f9 (P : Nat) : IntKind.u64.wrap ((P : Int) * 285870213051353865) = ((P * 285870213051353865 % 18446744073709551616 : Nat) : Int) := by rw [u64_wr]; omega
theorem tz_f10 (M : Nat) : (M : Int).fdiv (2 ^ (min 58 IntKind.u64.bits)) = ((M / 288230376151711744 : Nat) : Int) := by
 have hsh : (2 : Int) ^ (min 58 IntKind.u64.bits) = 288230376151711744 := by decide
 rw [hsh, Int.fdiv_eq_ediv_of_nonneg _ (by omega)]; omega
theorem tz_at (k : Nat) (hk : k < 64) : (2 ^ k * 285870213051353865) % 18446744073709551616 / 288230376151711744 < 64 ∧ tabZ.getD ((2 ^ k * 285870213051353865) % 18446744073709551616 / 288230376151711744) 0 = (k : Int) := by
 have ht := List.all_eq_true.1 tz_table k (List.mem_range.2 hk)
 rw [Bool.and_eq_true, decide_eq_true_eq, beq_iff_eq] at ht
 exact ht
theorem two64 : (2 : Nat) ^ 64 = 18446744073709551616 := by decide
theorem tz_facts {x k m : Nat} (h : x = 2 ^ k * (2 * m + 1)) (hx : x < 18446744073709551616) : ∃ P M I : Nat, IntKind.u64.wrap (((x % 2 ^ IntKind.u64.bits &&& (IntKind.u64.wrap (-(x : Int)) % 2 ^ IntKind.u64.bits).toNat : Nat)) : Int) = (P : Int) ∧ IntKind.u64.wrap ((P : Int) * 285870213051353865) = (M : Int) ∧ (M : Int).fdiv (2 ^ (min 58 IntKind.u64.bits)) = (I : Int) ∧ I < 64 ∧ tabZ.getD I 0 = (k : Int) ∧ k < 64 ∧ x ≠ 0 := by
 rw [← two64] at hx
 have hk := low_lt h hx
 have hx0 : x ≠ 0 := by
  have := Nat.two_pow_pos k
  rw [h]; exact Nat.mul_ne_zero (by omega) (by omega)
 have hlow := low_neg h hx
 have hpk := Nat.pow_lt_pow_right (a := 2) (by omega) hk
 rw [two64] at hx hlow hpk
 obtain ⟨ht1, ht2⟩ := tz_at k hk
 exact ⟨2 ^ k, _, _, tz_f8 hx hx0 hpk hlow, tz_f9 (2 ^ k), tz_f10 _, ht1, ht2, hk, hx0⟩
theorem tz_drop {I : Nat} {k : Nat} (hI : I < 64) (ht : tabZ.getD I 0 = (k : Int)) : (List.drop I (List.map (AV.v ∘ fun x => Value.int IntKind.u8 x) tabZ)) = .v (.int .u8 (k : Int)) :: List.drop (I + 1) (List.map (AV.v ∘ fun x => Value.int IntKind.u8 x) tabZ) := by
 have hl : tabZ.length = 64 := by decide
 have hI3 : I < tabZ.length := by omega
 rw [List.drop_eq_getElem_cons (by rw [List.length_map]; exact hI3)]
 congr 1
 rw [List.getElem_map, ← ht]
 simp only [Function.comp, List.getD, List.getElem?_eq_getElem hI3, Option.getD_some]
theorem PTn_ok : PTok Tryz.prog noPT := noPT_ok _
theorem tz_p (x k m : Nat) (h : x = 2 ^ k * (2 * m + 1)) (hx : x < 18446744073709551616) : FnPure Tryz.prog 111 [.v (.int .u64 (x : Int))] (.v (.int .i64 (k : Int))) := by
 obtain ⟨P, M, I, f8, f9, f10, hI, ht, hk, hx0⟩ := tz_facts h hx
 have hd := tz_drop hI ht
 have hne2 : ((x : Int) == 0) = false := by simpa using hx0
 have hI2 : (I : Int) < 64 := by omega
 have hc8 : IntKind.i64.wrap (k : Int) = k := i64n k (by omega)
 clear h hx hx0 ht hk
 refine fn_sp TT_ok Tryz.func111 (c := _) rfl (by simp [Tryz.ntmps111]) (fun B hI0 hro => ?_)
 rw [Tryz.ntmps111]
 simp only [enumA]
 refine amStr (h := ?_)
 refine amReg PTn_ok (h := ?_)
 refine amStr (h := ?_)
 refine amReg PTn_ok (h := ?_)
 refine amStr (h := ?_)
 refine s_regionL ?_
 ((iterate 10 (((with_reducible refine spl_step TT_ok PTn_ok (id := 0) (σ' := ?_) ?_ ?_); rotate_left; (focus (simp [*]; rfl))))))
 refine spl_nil ?_
 refine amStr (h := ?_)
 (refine amRt Tryz.results111 (h := ?_); try simp [*])
end Go.Proofs.YtllkogdgmmcfgaaGreatDoor
/- Vl: vars.List: the variables of a set, from the least; no condition. -/
namespace Go.Proofs.YtllkogdgmmcfgaaGreatDoor
set_option linter.unusedVariables false
set_option linter.unusedSimpArgs false
set_option linter.unusedSectionVars false
open Go.RowKit
open Wlk
attribute [-simp] List.getD_eq_getElem?_getD
set_option maxRecDepth 100000
def tzN (x : Nat) : Nat := (bitsW x).headD 0
@[simp] def g_tz : List AV → Option (AV × Bool)
 | [.v (.int .u64 x)] => if 0 < x ∧ x < 18446744073709551616 then some (.v (.int .i64 (tzN x.toNat : Nat)), false) else none
 | _ => none
theorem e_tz : EntOk Tryz.prog 111 g_tz := ent_pure (by kernel_rfl) fun args r fr h => by
 unfold g_tz at h
 split at h
 ·split at h
  ·rename_i x hc
   cases h
   obtain ⟨n, rfl⟩ := Int.eq_ofNat_of_zero_le (Int.le_of_lt hc.1)
   obtain ⟨k, m, hk⟩ := low_ex n (by omega)
   have hn : n < 18446744073709551616 := by omega
   have hb := bitsW_low hk (by rw [two64]; exact hn)
   refine ⟨?_, rfl⟩
   unfold tzN
   rw [Int.toNat_natCast, hb]
   exact tz_p n k m hk hn
  ·cases h
 ·cases h
def lz1 : List (FuncId × (List AV → Option (AV × Bool))) := (111, g_tz) :: []
theorem lz1_ok : ∀ p ∈ lz1, EntOk Tryz.prog p.1 p.2 := ent_cons e_tz (ent_nil)
def PTz : PTab := tab lz1
theorem PTz_ok : PTok Tryz.prog PTz := tab_ok lz1_ok
@[simp] theorem PTz_tz : PTz 111 = g_tz := rfl
def wVars (v : Nat) (l : List Nat) : List Int := l.map fun i => ((v + i : Nat) : Int)
theorem wVars_len (v x : Nat) : (wVars v (bitsW x)).length ≤ 64 := by
 unfold wVars bitsW
 rw [List.length_map]
 exact Nat.le_trans (List.length_filter_le _ _) (by simp)
def listS (s : BitVec 128) : List Int := wVars 1 (bitsW (lo s).toNat) ++ wVars 65 (bitsW (hi s).toNat)
def accS (s : BitVec 128) (i : Nat) : List Int := if i = 0 then [] else if i = 1 then wVars 1 (bitsW (lo s).toNat) else listS s
def accW (bs : List Int) (v : Nat) (d : List Nat) : List Int := bs ++ wVars v d
theorem accW_snoc (bs : List Int) (v : Nat) (d : List Nat) (k : Nat) : accW bs v (d ++ [k]) = accW bs v d ++ [((v + k : Nat) : Int)] := by simp [accW, wVars]
theorem accW_len (bs : List Int) (v : Nat) {d : List Nat} {x W : Nat} (h : d ++ bitsW x = bitsW W) : (accW bs v d).length ≤ bs.length + 64 := by
 have h2 := wVars_len v W
 unfold wVars at h2
 rw [← h, List.length_map, List.length_append] at h2
 simp only [accW, wVars, List.length_append, List.length_map]; omega
theorem u64_dec {x : Nat} (h0 : 0 < x) (hx : x < 18446744073709551616) : IntKind.u64.wrap ((x : Int) - 1) = ((x - 1 : Nat) : Int) := by rw [u64_wr]; omega
theorem u64_and {x : Nat} (hx : x < 18446744073709551616) : IntKind.u64.wrap (((x % 2 ^ IntKind.u64.bits &&& (x - 1) % 2 ^ IntKind.u64.bits : Nat)) : Int) = ((x &&& (x - 1) : Nat) : Int) := by
 have hb : (2 : Nat) ^ IntKind.u64.bits = 18446744073709551616 := rfl
 have h2 : x &&& (x - 1) ≤ x := Nat.and_le_left
 rw [hb, Nat.mod_eq_of_lt hx, Nat.mod_eq_of_lt (by omega), u64_wr]
 omega
theorem vList_p (s : BitVec 128) : FnPure Tryz.prog 48 [aSet s] (aInts (listS s)) := by
 unfold aSet WV
 refine fn_sp TT_ok Tryz.func48 (c := _) rfl (by simp [Tryz.ntmps48]) (fun B hI0 hro => ?_)
 rw [Tryz.ntmps48]
 simp only [enumA]
 refine amStr (h := ?_)
 refine amReg PTz_ok (h := ?_)
 refine amStr (h := ?_)
 refine s_regionL ?_
 ((iterate 1 (((with_reducible refine spl_step TT_ok PTz_ok (id := 0) (σ' := ?_) ?_ ?_); rotate_left; (focus (simp [*]; rfl))))))
 refine spl_call TT_ok rfl rfl rfl (by kernel_rfl) Tryz.func89 rfl (avs := [.agg [.v (.int .u64 ((lo s).toNat : Int)), .v (.int .u64 ((hi s).toNat : Int))]]) (cs := []) rfl rfl (by simp [Tryz.ntmps89]) fun B1 hI1 hro1 => ?_
 rw [Tryz.ntmps89, Tryz.results89]
 simp only [enumA, List.append_nil]
 refine amGo PTz_ok (h := ?_)
 refine ⟨.inr rfl, .clo 110 [.ptr 1 0 0], ?_, ?_⟩
 ·simp [retA, retL, ret1, lk]
 refine spl_call TT_ok rfl rfl rfl (by kernel_rfl) Tryz.func88 rfl (avs := [.clo 110 [.ptr 1 0 0]]) (cs := []) rfl rfl (by simp [Tryz.ntmps88]) fun B2 hI2 hro2 => ?_
 rw [Tryz.ntmps88, Tryz.results88]
 simp only [enumA, List.append_nil]
 refine amStr (h := ?_)
 refine amReg PTz_ok (h := ?_)
 refine amStr (h := ?_)
 refine s_regionL ?_
 ((iterate 1 (((with_reducible refine spl_step TT_ok PTz_ok (id := 0) (σ' := ?_) ?_ ?_); rotate_left; (focus (simp [*]; rfl))))))
 refine spl_call TT_ok rfl rfl rfl (by kernel_rfl) Tryz.func109 rfl (avs := [.v (.slice none 0 0), .clo 110 [.ptr 1 0 0]]) (cs := []) rfl rfl (by simp [Tryz.ntmps109]) fun B3 hI3 hro3 => ?_
 rw [Tryz.ntmps109, Tryz.results109]
 simp only [enumA, List.append_nil]
 refine amStr (h := ?_)
 refine amReg PTz_ok (h := ?_)
 refine amStr (h := ?_)
 refine amReg PTz_ok (h := ?_)
 refine amStr (h := ?_)
 (refine s_eq (τ := ?_) ?_ ?_; rotate_left; (focus ((try simp only [AS.frz, List.map_cons, List.map_nil]); (try simp [frzV, frzO, frzC, List.filter]); rfl)))
 refine s_range TT_ok 4 (by simp) hro3 (f := 110) (cs := [.ptr 1 0 0]) rfl (by kernel_rfl) Tryz.func110 rfl (by simp [Tryz.ntmps110]) (by simp) fun B4 hI4 hro4 hY => ?_
 rw [Tryz.ntmps110, Tryz.results110]
 simp only [enumA]
 refine s_cnil 2 0 0 5 3 1 rfl rfl (by simp) ?_ (by decide)
 (refine s_eq (τ := ?_) ?_ ?_; rotate_left; (focus ((try simp only [AS.frz, List.map_cons, List.map_nil]); (try simp [frzV, frzO, frzC, List.filter]); rfl)))
 refine amStr (h := ?_)
 refine amReg PTz_ok (h := ?_)
 refine amStr (h := ?_)
 refine s_loopI hI4 (J := fun i : {k : Nat // k ≤ 2} => ⟨26, [(0, .yld 4), (1, .ptr 1 0 0), (5, .agg [.v (.int .u64 ((lo s).toNat : Int)), .v (.int .u64 ((hi s).toNat : Int))]), (6, .v (.int .i64 (i.1 : Int)))], [(5, ⟨3, 1, (accS s i.1).map fun x => [.v (.int .i64 x)]⟩), (0, ⟨47, 2, [[.v (.int .u64 ((lo s).toNat : Int)), .v (.int .u64 ((hi s).toNat : Int))]]⟩), (1, ⟨47, 2, [[.v (.int .u64 ((lo s).toNat : Int)), .v (.int .u64 ((hi s).toNat : Int))]]⟩), (2, ⟨30, 1, [[.ref 5 0 (accS s i.1).length]]⟩)], [5, 4, 2, 1, 0]⟩) (μ := fun i => 2 - i.1) ⟨0, by omega⟩ ?_ (fun ⟨i, hik⟩ => ?_)
 ·have h0 : accS s 0 = [] := rfl
  refine weakI_of (fun k => k) ⟨rfl, ?_, ?_, ?_⟩ ?_ <;> simp [h0, lk, AV.ids, idsL, idsLL, AV.ren, renL, renLL]
 refine amStr (h := ?_)
 refine amReg PTz_ok (h := ?_)
 refine amStr (h := ?_)
 (focus ((with_reducible refine sp_cond (b := ?_) ?_ (fun hc => ?_) (fun hc => ?_)); rotate_left; (focus (first | rfl | (simp [lk, AS.ev]; rfl))); all_goals (try simp at hc)))
 ·rcases (by omega : i = 0 ∨ i = 1) with rfl | rfl
  ·obtain ⟨W, hW⟩ : ∃ W, (lo s).toNat = W := ⟨_, rfl⟩
   have hWl : W < 18446744073709551616 := by rw [← hW]; exact (lo s).isLt
   obtain ⟨bs, hbs⟩ : ∃ bs : List Int, accS s 0 = bs := ⟨_, rfl⟩
   have hbl : bs.length ≤ 0 := by rw [← hbs]; exact Nat.le_refl 0
   have hnx : accS s 1 = bs ++ wVars 1 (bitsW W) := by rw [← hbs, ← hW]; rfl
   refine amStr (h := ?_)
   refine amReg PTz_ok (h := ?_)
   refine amStr (h := ?_)
   refine s_loopI hI4 (J := fun p : {p : List Nat × Nat // p.1 ++ bitsW p.2 = bitsW W ∧ p.2 < 18446744073709551616} => ⟨26, [(0, .yld 4), (1, .ptr 1 0 0), (3, .v (.int .i64 0)), (4, .v (.int .u64 (p.1.2 : Int))), (5, .agg [.v (.int .u64 ((lo s).toNat : Int)), .v (.int .u64 ((hi s).toNat : Int))]), (6, .v (.int .i64 0))], [(5, ⟨3, 1, (accW bs 1 p.1.1).map fun x => [.v (.int .i64 x)]⟩), (0, ⟨47, 2, [[.v (.int .u64 ((lo s).toNat : Int)), .v (.int .u64 ((hi s).toNat : Int))]]⟩), (1, ⟨47, 2, [[.v (.int .u64 ((lo s).toNat : Int)), .v (.int .u64 ((hi s).toNat : Int))]]⟩), (2, ⟨30, 1, [[.ref 5 0 (accW bs 1 p.1.1).length]]⟩)], [5, 4, 2, 1, 0]⟩) (μ := fun p => p.1.2) ⟨([], W), rfl, hWl⟩ ?_ (fun ⟨⟨d, x⟩, hd, hx⟩ => ?_)
   ·have hv : accW bs 1 [] = bs := List.append_nil bs
    refine weakI_of (fun k => k) ⟨rfl, ?_, ?_, ?_⟩ ?_ <;> simp [hv, hW, lk, AV.ids, idsL, idsLL, AV.ren, renL, renLL]
   dsimp only at hd hx
   refine amStr (h := ?_)
   refine amReg PTz_ok (h := ?_)
   refine amStr (h := ?_)
   by_cases hx0 : x = 0
   ·subst hx0
    have hdd : d = bitsW W := by rw [← hd, bitsW_zero, List.append_nil]
    have hfin : accW bs 1 d = accS s 1 := by rw [hnx, hdd]; rfl
    have hnz : (((0 : Nat) : Int) != 0) = false := rfl
    clear hdd
    refine amStr (h := ?_)
    refine amReg PTz_ok (h := ?_)
    refine amStr (h := ?_)
    refine ki_lp (⟨1, by omega⟩ : {k : Nat // k ≤ 2}) (by dsimp only; omega) ?_
    (refine weakI_of (fun q => q) ⟨rfl, ?_, ?_, ?_⟩ ?_ <;> ((try simp only [List.mem_cons, List.not_mem_nil, or_false, forall_eq_or_imp, forall_eq]); (try simp (disch := omega) [lk, AV.ids, idsL, idsLL, AV.ren, renL, renLL, i64w, *])))
   ·have hne : ((x : Int) != 0) = true := by simpa using hx0
    obtain ⟨k, m, hk⟩ := low_ex x (by omega)
    have hx2 : x < 2 ^ 64 := by rw [two64]; exact hx
    have hb := bitsW_low hk hx2
    have hcl := low_clear hk
    have hk64 := low_lt hk hx2
    have hdl := accW_len bs 1 hd
    have hcap : ((accW bs 1 d).length + 1) * 8 ≤ 140737488355328 := by omega
    have hsn := accW_snoc bs 1 d k
    have hx0' : 0 < x := by omega
    have hlt : x &&& (x - 1) < x := Nat.lt_of_le_of_lt Nat.and_le_right (by omega)
    have hd2 : (d ++ [k]) ++ bitsW (x &&& (x - 1)) = bitsW W := by rw [hcl, List.append_assoc, List.singleton_append, ← hb]; exact hd
    have hhd : tzN x = k := by unfold tzN; rw [hb]; rfl
    have hxi : (x : Int) < 18446744073709551616 := by omega
    have h0i : (0 : Int) < (x : Int) := by omega
    have hwm := u64_dec hx0' hx
    have hand := u64_and hx
    have hw1 : IntKind.i64.wrap (k : Int) = k := i64n k (by omega)
    have hw2 : IntKind.i64.wrap ((k : Int) + 1) = k + 1 := i64s k (by omega)
    have hw3 : IntKind.i64.wrap (64 + (k : Int)) = 64 + k := i64w (by omega) (by omega)
    have hw4 : IntKind.i64.wrap (64 + (k : Int) + 1) = 64 + k + 1 := i64w (by omega) (by omega)
    have hw5 : IntKind.i64.wrap 0 = 0 := rfl
    have hw6 : IntKind.i64.wrap 64 = 64 := rfl
    clear hk hx2 hb hcl hnx hbs
    refine amStr (h := ?_)
    refine s_regionL ?_
    ((iterate 7 (((with_reducible refine spl_step TT_ok PTz_ok (id := 0) (σ' := ?_) ?_ ?_); rotate_left; (focus (simp [*]; rfl))))))
    refine hY _ _ _ _ _ _ _ _ [.v (.int .i64 ((k : Int) + 1))] rfl rfl rfl rfl rfl rfl fun B5 hI5 hro5 => ?_
    simp only [setps, st]
    refine amStr (h := ?_)
    refine amReg PTz_ok (h := ?_)
    refine ⟨rfl, fun B6 hI6 hro6 => ?_⟩
    refine amStr (h := ?_)
    refine s_regionL ?_
    ((iterate 2 (((with_reducible refine spl_step TT_ok PTz_ok (id := 0) (σ' := ?_) ?_ ?_); rotate_left; (focus (simp [*]; rfl))))))
    (((with_reducible refine spl_step TT_ok PTz_ok (id := 6) (σ' := ?_) ?_ ?_); rotate_left; (focus (simp [*]; rfl))))
    (((with_reducible refine spl_step TT_ok PTz_ok (id := 7) (σ' := ?_) ?_ ?_); rotate_left; (focus (simp [*]; rfl))))
    ((iterate 1 (((with_reducible refine spl_step TT_ok PTz_ok (id := 0) (σ' := ?_) ?_ ?_); rotate_left; (focus (simp [*]; rfl))))))
    refine spl_nil ?_
    refine amStr (h := ?_)
    refine ⟨rfl, ?_⟩
    ((iterate 1 (((with_reducible refine spl_step TT_ok PTz_ok (id := 0) (σ' := ?_) ?_ ?_); rotate_left; (focus (simp [*]; rfl))))))
    refine spl_nil ?_
    refine amStr (h := ?_)
    refine amReg PTz_ok (h := ?_)
    refine amStr (h := ?_)
    refine ki_lp (⟨(d ++ [k], x &&& (x - 1)), hd2, Nat.lt_trans hlt hx⟩ : {p : List Nat × Nat // p.1 ++ bitsW p.2 = bitsW W ∧ p.2 < 18446744073709551616}) hlt ?_
    (refine weakI_of (fun q => if q = 5 then 7 else q) ⟨rfl, ?_, ?_, ?_⟩ ?_ <;> ((try simp only [List.mem_cons, List.not_mem_nil, or_false, forall_eq_or_imp, forall_eq]); (try simp (disch := omega) [lk, AV.ids, idsL, idsLL, AV.ren, renL, renLL, i64w, *])))
    all_goals omega
  ·obtain ⟨W, hW⟩ : ∃ W, (hi s).toNat = W := ⟨_, rfl⟩
   have hWl : W < 18446744073709551616 := by rw [← hW]; exact (hi s).isLt
   obtain ⟨bs, hbs⟩ : ∃ bs : List Int, accS s 1 = bs := ⟨_, rfl⟩
   have hbl : bs.length ≤ 64 := by rw [← hbs]; exact wVars_len _ _
   have hnx : accS s 2 = bs ++ wVars 65 (bitsW W) := by rw [← hbs, ← hW]; rfl
   refine amStr (h := ?_)
   refine amReg PTz_ok (h := ?_)
   refine amStr (h := ?_)
   refine s_loopI hI4 (J := fun p : {p : List Nat × Nat // p.1 ++ bitsW p.2 = bitsW W ∧ p.2 < 18446744073709551616} => ⟨26, [(0, .yld 4), (1, .ptr 1 0 0), (3, .v (.int .i64 1)), (4, .v (.int .u64 (p.1.2 : Int))), (5, .agg [.v (.int .u64 ((lo s).toNat : Int)), .v (.int .u64 ((hi s).toNat : Int))]), (6, .v (.int .i64 1))], [(5, ⟨3, 1, (accW bs 65 p.1.1).map fun x => [.v (.int .i64 x)]⟩), (0, ⟨47, 2, [[.v (.int .u64 ((lo s).toNat : Int)), .v (.int .u64 ((hi s).toNat : Int))]]⟩), (1, ⟨47, 2, [[.v (.int .u64 ((lo s).toNat : Int)), .v (.int .u64 ((hi s).toNat : Int))]]⟩), (2, ⟨30, 1, [[.ref 5 0 (accW bs 65 p.1.1).length]]⟩)], [5, 4, 2, 1, 0]⟩) (μ := fun p => p.1.2) ⟨([], W), rfl, hWl⟩ ?_ (fun ⟨⟨d, x⟩, hd, hx⟩ => ?_)
   ·have hv : accW bs 65 [] = bs := List.append_nil bs
    refine weakI_of (fun k => k) ⟨rfl, ?_, ?_, ?_⟩ ?_ <;> simp [hv, hW, lk, AV.ids, idsL, idsLL, AV.ren, renL, renLL]
   dsimp only at hd hx
   refine amStr (h := ?_)
   refine amReg PTz_ok (h := ?_)
   refine amStr (h := ?_)
   by_cases hx0 : x = 0
   ·subst hx0
    have hdd : d = bitsW W := by rw [← hd, bitsW_zero, List.append_nil]
    have hfin : accW bs 65 d = accS s 2 := by rw [hnx, hdd]; rfl
    have hnz : (((0 : Nat) : Int) != 0) = false := rfl
    clear hdd
    refine amStr (h := ?_)
    refine amReg PTz_ok (h := ?_)
    refine amStr (h := ?_)
    refine ki_lp (⟨2, by omega⟩ : {k : Nat // k ≤ 2}) (by dsimp only; omega) ?_
    (refine weakI_of (fun q => q) ⟨rfl, ?_, ?_, ?_⟩ ?_ <;> ((try simp only [List.mem_cons, List.not_mem_nil, or_false, forall_eq_or_imp, forall_eq]); (try simp (disch := omega) [lk, AV.ids, idsL, idsLL, AV.ren, renL, renLL, i64w, *])))
   ·have hne : ((x : Int) != 0) = true := by simpa using hx0
    obtain ⟨k, m, hk⟩ := low_ex x (by omega)
    have hx2 : x < 2 ^ 64 := by rw [two64]; exact hx
    have hb := bitsW_low hk hx2
    have hcl := low_clear hk
    have hk64 := low_lt hk hx2
    have hdl := accW_len bs 65 hd
    have hcap : ((accW bs 65 d).length + 1) * 8 ≤ 140737488355328 := by omega
    have hsn := accW_snoc bs 65 d k
    have hx0' : 0 < x := by omega
    have hlt : x &&& (x - 1) < x := Nat.lt_of_le_of_lt Nat.and_le_right (by omega)
    have hd2 : (d ++ [k]) ++ bitsW (x &&& (x - 1)) = bitsW W := by rw [hcl, List.append_assoc, List.singleton_append, ← hb]; exact hd
    have hhd : tzN x = k := by unfold tzN; rw [hb]; rfl
    have hxi : (x : Int) < 18446744073709551616 := by omega
    have h0i : (0 : Int) < (x : Int) := by omega
    have hwm := u64_dec hx0' hx
    have hand := u64_and hx
    have hw1 : IntKind.i64.wrap (k : Int) = k := i64n k (by omega)
    have hw2 : IntKind.i64.wrap ((k : Int) + 1) = k + 1 := i64s k (by omega)
    have hw3 : IntKind.i64.wrap (64 + (k : Int)) = 64 + k := i64w (by omega) (by omega)
    have hw4 : IntKind.i64.wrap (64 + (k : Int) + 1) = 64 + k + 1 := i64w (by omega) (by omega)
    have hw5 : IntKind.i64.wrap 0 = 0 := rfl
    have hw6 : IntKind.i64.wrap 64 = 64 := rfl
    clear hk hx2 hb hcl hnx hbs
    refine amStr (h := ?_)
    refine s_regionL ?_
    ((iterate 7 (((with_reducible refine spl_step TT_ok PTz_ok (id := 0) (σ' := ?_) ?_ ?_); rotate_left; (focus (simp [*]; rfl))))))
    refine hY _ _ _ _ _ _ _ _ [.v (.int .i64 (64 + (k : Int) + 1))] rfl rfl rfl rfl rfl rfl fun B5 hI5 hro5 => ?_
    simp only [setps, st]
    refine amStr (h := ?_)
    refine amReg PTz_ok (h := ?_)
    refine ⟨rfl, fun B6 hI6 hro6 => ?_⟩
    refine amStr (h := ?_)
    refine s_regionL ?_
    ((iterate 2 (((with_reducible refine spl_step TT_ok PTz_ok (id := 0) (σ' := ?_) ?_ ?_); rotate_left; (focus (simp [*]; rfl))))))
    (((with_reducible refine spl_step TT_ok PTz_ok (id := 6) (σ' := ?_) ?_ ?_); rotate_left; (focus (simp [*]; rfl))))
    (((with_reducible refine spl_step TT_ok PTz_ok (id := 7) (σ' := ?_) ?_ ?_); rotate_left; (focus (simp [*]; rfl))))
    ((iterate 1 (((with_reducible refine spl_step TT_ok PTz_ok (id := 0) (σ' := ?_) ?_ ?_); rotate_left; (focus (simp [*]; rfl))))))
    refine spl_nil ?_
    refine amStr (h := ?_)
    refine ⟨rfl, ?_⟩
    ((iterate 1 (((with_reducible refine spl_step TT_ok PTz_ok (id := 0) (σ' := ?_) ?_ ?_); rotate_left; (focus (simp [*]; rfl))))))
    refine spl_nil ?_
    refine amStr (h := ?_)
    refine amReg PTz_ok (h := ?_)
    refine amStr (h := ?_)
    refine ki_lp (⟨(d ++ [k], x &&& (x - 1)), hd2, Nat.lt_trans hlt hx⟩ : {p : List Nat × Nat // p.1 ++ bitsW p.2 = bitsW W ∧ p.2 < 18446744073709551616}) hlt ?_
    (refine weakI_of (fun q => if q = 5 then 7 else q) ⟨rfl, ?_, ?_, ?_⟩ ?_ <;> ((try simp only [List.mem_cons, List.not_mem_nil, or_false, forall_eq_or_imp, forall_eq]); (try simp (disch := omega) [lk, AV.ids, idsL, idsLL, AV.ren, renL, renLL, i64w, *])))
    all_goals omega
 ·obtain rfl : i = 2 := by omega
  have hfin : accS s 2 = listS s := rfl
  refine amStr (h := ?_)
  refine ⟨.inl rfl, .tup [], rfl, ?_⟩
  refine amStr (h := ?_)
  refine amReg PTz_ok (h := ?_)
  refine amStr (h := ?_)
  refine ⟨.inr rfl, .ref 5 0 (listS s).length, ?_, ?_⟩
  ·simp [retA, retL, ret1, lk]
  ((iterate 1 (((with_reducible refine spl_step TT_ok PTz_ok (id := 0) (σ' := ?_) ?_ ?_); rotate_left; (focus (simp [*]; rfl))))))
  refine spl_nil ?_
  refine amStr (h := ?_)
  refine ⟨.inr rfl, .ref 5 0 (listS s).length, ?_, ?_⟩
  ·simp [retA, retL, ret1, lk]
  ((iterate 1 (((with_reducible refine spl_step TT_ok PTz_ok (id := 0) (σ' := ?_) ?_ ?_); rotate_left; (focus (simp [*]; rfl))))))
  refine spl_nil ?_
  refine amStr (h := ?_)
  (refine amRt Tryz.results48 (h := ?_); try simp [*])
end Go.Proofs.YtllkogdgmmcfgaaGreatDoor
/- Vn23: Proofs as arguments: a theory, a net, claims; what verify computes, in plain words; no condition. -/
namespace Go.Proofs.YtllkogdgmmcfgaaGreatDoor
set_option linter.unusedVariables false
set_option linter.unusedSimpArgs false
set_option linter.unusedSectionVars false
open Go.RowKit
set_option maxRecDepth 100000
abbrev Cl := List Int × List Int
def aCls (l : List Cl) : AV := .sl 2 (l.map fun p => [aInts p.1, aInts p.2])
def okCl (l : List Cl) : Bool := decide (l.length ≤ 100000) && l.all fun p => okInts p.1 && okInts p.2
@[simp ↓ high] theorem d_ids_aCls (l : List Cl) : idsLL (l.map fun p => [aInts p.1, aInts p.2]) = [] := by
 induction l with
 | nil => rfl
 | cons p l ih => simp [idsLL, idsL, ih]
@[simp ↓ high] theorem d_ren_aCls (ρ : Nat → Nat) (l : List Cl) : renLL ρ (l.map fun p => [aInts p.1, aInts p.2]) = l.map fun p => [aInts p.1, aInts p.2] := renLL_pure ρ _ (d_ids_aCls l)
@[simp] theorem cls_get {l : List Cl} {k : Nat} (h : k < l.length) : (l.map fun p => [aInts p.1, aInts p.2]).getD k [] = [aInts (l.getD k ([], [])).1, aInts (l.getD k ([], [])).2] := by
 simp [List.getD, h]
theorem cl_mem {l : List Cl} {k : Nat} (hk : k < l.length) : l.getD k ([], []) ∈ l := by simp [List.getD, hk]
theorem okCl_at {l : List Cl} (h : okCl l = true) {p : Cl} (hp : p ∈ l) : okInts p.1 = true ∧ okInts p.2 = true := by
 unfold okCl at h
 rw [Bool.and_eq_true] at h
 have := List.all_eq_true.1 h.2 p hp
 rwa [Bool.and_eq_true] at this
theorem okCl_len {l : List Cl} (h : okCl l = true) : l.length ≤ 100000 := by
 unfold okCl at h
 rw [Bool.and_eq_true, decide_eq_true_eq] at h
 exact h.1
def clsOf : List (List AV) → Option (List Cl)
 | [] => some []
 | [a, b] :: r => match toInts a, toInts b, clsOf r with
  | some x, some y, some l => some ((x, y) :: l)
  | _, _, _ => none
 | _ :: _ => none
def toCls : AV → Option (List Cl)
 | .sl 2 ys => clsOf ys
 | .v (.slice none 0 0) => some []
 | _ => none
@[simp] theorem clsOf_map : ∀ l : List Cl, clsOf (l.map fun p => [aInts p.1, aInts p.2]) = some l
 | [] => rfl
 | (x, y) :: l => by simp [clsOf, clsOf_map l]
@[simp] theorem toCls_sl (l : List Cl) : toCls (.sl 2 (l.map fun p => [aInts p.1, aInts p.2])) = some l := clsOf_map l
@[simp] theorem toCls_aCls (l : List Cl) : toCls (aCls l) = some l := clsOf_map l
@[simp] theorem toCls_nil : toCls (.v (.slice none 0 0)) = some [] := rfl
theorem clsOf_rows : ∀ {ys : List (List AV)} {l : List Cl}, clsOf ys = some l → ys.length = l.length ∧ ∀ i, i < l.length → ∃ a b, ys.getD i [] = [a, b] ∧ toInts a = some (l.getD i ([], [])).1 ∧ toInts b = some (l.getD i ([], [])).2
 | [], l, h => by
  simp only [clsOf, Option.some.injEq] at h
  subst h
  exact ⟨rfl, fun i hi => absurd hi (by simp)⟩
 | [] :: r, l, h => by simp [clsOf] at h
 | [_] :: r, l, h => by simp [clsOf] at h
 | (_ :: _ :: _ :: _) :: r, l, h => by simp [clsOf] at h
 | [a, b] :: r, l, h => by
  simp only [clsOf] at h
  split at h
  ·rename_i x y l2 h1 h2 h3
   cases h
   obtain ⟨g1, g2⟩ := clsOf_rows h3
   refine ⟨by simp [g1], fun i hi => ?_⟩
   cases i with
   | zero => exact ⟨a, b, rfl, h1, h2⟩
   | succ i =>
    have := g2 i (by simpa using hi)
    simpa using this
  ·cases h
theorem cov_cls {a : AV} {l : List Cl} (h : toCls a = some l) : Cov a (aCls l) := fun S v hv => by
 unfold toCls at h
 split at h
 ·rename_i ys
  obtain ⟨g1, g2⟩ := clsOf_rows h
  cases hv with
  | sl _ _ b n c us hn hc hm h0 hz ha h3 h4 =>
   refine .sl 2 _ b n c us (by rw [hn, List.length_map, g1]) hc hm h0 (fun i hi => ?_) (fun hp => ?_) (fun i j hi hj => ?_) (fun i j hi hj => ?_)
   ·rw [List.length_map] at hi; rw [cls_get hi]; rfl
   ·rw [List.length_map] at hp
    obtain ⟨b2, base, e1, e2⟩ := ha (by omega)
    exact ⟨b2, base, e1, fun i j hi hj => e2 i j (by rw [List.length_map] at hi; omega) hj⟩
   ·rw [List.length_map] at hi
    exact h3 i j (by omega) hj
   ·rw [List.length_map] at hi
    obtain ⟨a, b, e1, e2, e3⟩ := g2 i hi
    have h5 := h4 i j (by omega) hj
    rw [e1] at h5
    rw [cls_get hi]
    match j, hj with
    | 0, hj => exact cov_ints e2 S _ h5
    | 1, hj => exact cov_ints e3 S _ h5
 ·cases h; rw [hv.v_eq]; exact rv_nil 2
 ·cases h
def aPrf (N : Int) (L : List (List Int)) (ns : List Nd) (cl : List Cl) : AV := .pt [.v (.int .i64 N), aRows L, .v (.int .i64 N), aNds ns, aCls cl]
theorem cov_prf {N M : Int} {a b c : AV} {L : List (List Int)} {ns : List Nd} {cl : List Cl} (h1 : toRows a = some L) (h2 : toNds b = some ns) (h3 : toCls c = some cl) : Cov (.pt [.v (.int .i64 N), a, .v (.int .i64 M), b, c]) (.pt [.v (.int .i64 N), aRows L, .v (.int .i64 M), aNds ns, aCls cl]) := fun S v hv => by
 cases hv with
 | pt _ b o us hS g1 g =>
  refine .pt _ b o us hS g1 fun j hj => ?_
  have h5 := g j hj
  match j, hj with
  | 0, _ => exact h5
  | 1, _ => exact cov_rows h1 S _ h5
  | 2, _ => exact h5
  | 3, _ => exact cov_nds h2 S _ h5
  | 4, _ => exact cov_cls h3 S _ h5
/-! ### What verify computes -/
def gvV (R : List (List Int)) (l : Int) : List (List Int) := normL (givenT [l] R)
def kindN (ns : List Nd) (i : Int) : Int := (ns.getD i.toNat nd0).1
def litN (ns : List Nd) (i : Int) : Int := (ns.getD i.toNat nd0).2.1
def inN (ns : List Nd) (i : Int) : List Int := (ns.getD i.toNat nd0).2.2
def useB (ns : List Nd) (R : List (List Int)) (i : Int) : Bool := decide (kindN ns i = 2) && decide ([litN ns i] ∈ R)
def cutI (is : List Int) (k : Nat) : List Int := is.take k ++ is.drop (k + 1)
def fit1 (ns : List Nd) : Nat → List (List Int) → List Int → List (List Int) × List Int
 | 0, R, is => (R, is)
 | f + 1, R, is => match is.findIdx? (useB ns R) with
  | none => (R, is)
  | some k => fit1 ns f (gvV R (litN ns (is.getD k 0))) (cutI is k)
def clN (cl : List Cl) (i : Int) : Cl := cl.getD i.toNat ([], [])
def rsV (L : List (List Int)) (N : Int) (c : Cl) : Option (List (List Int)) := if goodB N L.length c.1 c.2 = true then some (rsdL L c.1 c.2) else none
def fit2 (N : Int) (L : List (List Int)) (ns : List Nd) (cl : List Cl) : List Int → BitVec 128 → List (List Int) → Option (List (List Int))
 | [], _, all => some all
 | i :: r, seen, all => match rsV L N (clN cl i) with
  | none => none
  | some x => if kindN ns i = 2 then none else if seen &&& varsT x ≠ 0#128 then none else fit2 N L ns cl r (seen ||| varsT x) (all ++ if [] ∈ x ∧ [] ∈ all then x.drop 1 else x)
def fitV (N : Int) (L : List (List Int)) (ns : List Nd) (cl : List Cl) (R : List (List Int)) (is : List Int) : Bool :=
 match fit2 N L ns cl (fit1 ns is.length R is).2 0#128 [] with
 | none => false
 | some all => decide (checkT N all = 0) && decide ((fit1 ns is.length R is).1 = normL all)
def litI (ns : List Nd) (l : Int) (i : Int) : Bool := decide (kindN ns i = 2) && decide (litN ns i = l)
def sideV (N : Int) (L : List (List Int)) (ns : List Nd) (cl : List Cl) (R : List (List Int)) (i l : Int) : Bool :=
 if kindN ns i = 2 then decide (litN ns i = l) && decide (gvV R l = [])
 else if kindN ns i = 3 then match (inN ns i).findIdx? (litI ns l) with
  | none => false
  | some k => fitV N L ns cl (gvV R l) (cutI (inN ns i) k)
 else false
def acptV (N : Int) (L : List (List Int)) (ns : List Nd) (cl : List Cl) (i : Int) (R : List (List Int)) : Bool :=
 if kindN ns i = 1 then decide (R = []) else if kindN ns i = 0 then decide ([] ∈ R)
 else if kindN ns i = 2 then decide (R.length = 1) && decide ([litN ns i] ∈ R)
 else if kindN ns i = 3 then fitV N L ns cl R (inN ns i)
 else if (inN ns i).length ≠ 2 then false
 else (listS (varsT R)).any fun v => [v, -v].any fun l => sideV N L ns cl R ((inN ns i).getD 0 0) l && sideV N L ns cl R ((inN ns i).getD 1 0) (-l)
end Go.Proofs.YtllkogdgmmcfgaaGreatDoor
/- Vt23: The table of chapter 23; no condition. -/
namespace Go.Proofs.YtllkogdgmmcfgaaGreatDoor
set_option linter.unusedVariables false
set_option linter.unusedSimpArgs false
set_option linter.unusedSectionVars false
open Go.RowKit
open Wlk
attribute [-simp] List.getD_eq_getElem?_getD
set_option maxRecDepth 100000
@[simp] def g_vList : List AV → Option (AV × Bool)
 | [a0] => (match toSet a0 with | some s => if (true) = true then some (aInts (listS s), false) else none | none => none)
 | _ => none
theorem e_vList : EntOk Tryz.prog 48 g_vList := ent_pure (by kernel_rfl) fun args r fr h => by
 unfold g_vList at h
 split at h
 ·rename_i a0
  split at h
  ·rename_i s t0
   split at h
   ·rename_i hc
    cases h
    exact ⟨FnPure.cov (vList_p s) (.cons (toSet_inv t0 ▸ Cov.refl _) .nil), rfl⟩
   ·cases h
  ·cases h
 ·cases h

theorem same1_p (c d : List Int) (hc : okInts c = true) (hd : okInts d = true) : FnPure Tryz.prog 58 [aInts c, aInts d] (.v (.bool (decide (c = d)))) := by
 refine fn_sp TT_ok Tryz.func58 (c := _) rfl (by simp [Tryz.ntmps58]) (fun B hI0 hro => ?_)
 rw [Tryz.ntmps58]
 simp only [enumA]
 refine amGo PT72_ok (h := ?_)
 (refine amRt Tryz.results58 (h := ?_); try simp [*])
@[simp] def g_vSame1 : List AV → Option (AV × Bool)
 | [a0, a1] => (match toInts a0 with | some c => (match toInts a1 with | some d => if (okInts c && okInts d) = true then some (.v (.bool (decide (c = d))), false) else none | none => none) | none => none)
 | _ => none
theorem e_vSame1 : EntOk Tryz.prog 58 g_vSame1 := ent_pure (by kernel_rfl) fun args r fr h => by
 unfold g_vSame1 at h
 split at h
 ·rename_i a0 a1
  split at h
  ·rename_i c t0
   split at h
   ·rename_i d t1
    split at h
    ·rename_i hc
     simp only [Bool.and_eq_true] at hc
     obtain ⟨o0, o1⟩ := hc
     cases h
     exact ⟨FnPure.cov (same1_p c d o0 o1) (.cons (cov_ints t0) (.cons (cov_ints t1) .nil)), rfl⟩
    ·cases h
   ·cases h
  ·cases h
 ·cases h

def l200 : List (FuncId × (List AV → Option (AV × Bool))) :=
 (62, g_r2Res) :: (43, g_nFormed) :: (23, g_nCheck) :: (71, g_r4Var) :: (69, g_r4Valid) :: (35, g_rFormed) :: (14, g_rValid20) :: (48, g_vList) :: (58, g_vSame1) :: l72
theorem l200_ok : ∀ p ∈ l200, EntOk Tryz.prog p.1 p.2 := ent_cons e_r2Res (ent_cons e_nFormed (ent_cons e_nCheck (ent_cons e_r4Var (ent_cons e_r4Valid (ent_cons e_rFormed (ent_cons e_rValid20 (ent_cons e_vList (ent_cons e_vSame1 (l72_ok)))))))))
def PT200 : PTab := tab l200
theorem PT200_ok : PTok Tryz.prog PT200 := tab_ok l200_ok
@[simp] theorem PT200_r2Res : PT200 62 = g_r2Res := rfl
@[simp] theorem PT200_nFormed : PT200 43 = g_nFormed := rfl
@[simp] theorem PT200_nCheck : PT200 23 = g_nCheck := rfl
@[simp] theorem PT200_r4Var : PT200 71 = g_r4Var := rfl
@[simp] theorem PT200_r4Valid : PT200 69 = g_r4Valid := rfl
@[simp] theorem PT200_rFormed : PT200 35 = g_rFormed := rfl
@[simp] theorem PT200_rValid20 : PT200 14 = g_rValid20 := rfl
@[simp] theorem PT200_vList : PT200 48 = g_vList := rfl
@[simp] theorem PT200_vSame1 : PT200 58 = g_vSame1 := rfl
@[simp] theorem PT200_old (f : FuncId) (h : decide (f ≠ 62 ∧ f ≠ 43 ∧ f ≠ 23 ∧ f ≠ 71 ∧ f ≠ 69 ∧ f ≠ 35 ∧ f ≠ 14 ∧ f ≠ 48 ∧ f ≠ 58) = true) : PT200 f = PT72 f := (fun h => Eq.trans (tab_old h.1) (Eq.trans (tab_old h.2.1) (Eq.trans (tab_old h.2.2.1) (Eq.trans (tab_old h.2.2.2.1) (Eq.trans (tab_old h.2.2.2.2.1) (Eq.trans (tab_old h.2.2.2.2.2.1) (Eq.trans (tab_old h.2.2.2.2.2.2.1) (Eq.trans (tab_old h.2.2.2.2.2.2.2.1) (tab_old h.2.2.2.2.2.2.2.2))))))))) (of_decide_eq_true h)
end Go.Proofs.YtllkogdgmmcfgaaGreatDoor
/- Jf: Steps of walks within regions; lists that are let go, as lists; no condition. -/
namespace Go.Proofs.YtllkogdgmmcfgaaGreatDoor
set_option linter.unusedVariables false
set_option linter.unusedSimpArgs false
set_option linter.unusedSectionVars false
open Go.RowKit
set_option maxRecDepth 100000
section
variable {P : Program} {σ : AS} {B : Base} {Q : Exit → AS → Prop} {ops : Array Oper}
theorem spl_frz {r : List Oper} (D : Nat → Bool) (k : SPL P B ops r (σ.frz D) Q) : SPL P B ops r σ Q := fun D' G w a hr => k D' _ w a (hr.frz D)
theorem spl_eq {τ : AS} {r : List Oper} (h : σ = τ) (k : SPL P B ops r τ Q) : SPL P B ops r σ Q := h ▸ k
theorem spl_coreX {TT : TTab} (hTT : TTok P TT) {id : Nat} {o : Oper} {r : List Oper} {s : Res} (hd : dstOk σ o = true) (hw : wantA σ ops o = some true) (h : coreX TT σ id o = some s) (k : SPL P B ops r ((σ.upd s.2).put o.dst s.1) Q) : SPL P B ops (o :: r) σ Q := spl_op hd hw (coreX_ok hTT h).1 k (coreX_ok hTT h).2
end
@[simp ↓ high] theorem d_rows_mk (σ : AS) (t : TypeId) (xs : List (List AV)) (L : List (List Int)) : σ.rows (AObj.mk t 1 xs).sz (aRows L) = some (L.map fun xs => [aInts xs]) := rfl
@[simp ↓ high] theorem d_rows_mki (σ : AS) (t : TypeId) (xs : List (List AV)) (L : List Int) : σ.rows (AObj.mk t 1 xs).sz (aInts L) = some (L.map fun x => [.v (.int .i64 x)]) := rfl
theorem ids_rep (x : Value) : ∀ n, idsLL (List.replicate n [AV.v x]) = []
 | 0 => rfl
 | n + 1 => by rw [List.replicate_succ, idsLL, ids_rep x n]; rfl
@[simp ↓ high] theorem d_frz_app (σ : AS) (D : Nat → Bool) (L : List (List Int)) (a : AV) : ((L.map fun xs => [aInts xs]) ++ [[a]]).map (fun r => r.map (frzC σ D)) = (L.map fun xs => [aInts xs]) ++ [[frzC σ D a]] := by
 rw [List.map_append, List.map_map]
 congr 1
 refine List.map_congr_left fun xs _ => ?_
 show [frzC σ D (aInts xs)] = [aInts xs]
 unfold frzC
 rw [d_shut1_ints]; rfl
@[simp ↓ high] theorem d_frzC_ints (σ : AS) (D : Nat → Bool) (xs : List Int) : frzC σ D (aInts xs) = aInts xs := by
 unfold frzC
 rw [d_shut1_ints]; rfl
end Go.Proofs.YtllkogdgmmcfgaaGreatDoor
/- Vh23: verify.has, same, given; no condition. -/
namespace Go.Proofs.YtllkogdgmmcfgaaGreatDoor
set_option linter.unusedVariables false
set_option linter.unusedSimpArgs false
set_option linter.unusedSectionVars false
open Go.RowKit
open Wlk
attribute [-simp] List.getD_eq_getElem?_getD
set_option maxRecDepth 100000
theorem getD_memR {L : List (List Int)} {k : Nat} (hk : k < L.length) : L.getD k [] ∈ L := by
 rw [List.getD_eq_getElem?_getD, List.getElem?_eq_getElem hk]; exact List.getElem_mem _
theorem not_mem_all {R : List (List Int)} {c : List Int} (h : ∀ j, j < R.length → R.getD j [] ≠ c) : c ∉ R := fun hm => by
 obtain ⟨j, hj, e⟩ := List.getElem_of_mem hm
 exact h j hj (by rw [List.getD_eq_getElem?_getD, List.getElem?_eq_getElem hj]; exact e)
theorem has_p (N : Int) (R : List (List Int)) (c : List Int) (hN : okI N = true) (hR : okRows R = true) (hc : okInts c = true) : FnPure Tryz.prog 46 [aTh N R, aInts c] (.v (.bool (decide (c ∈ R)))) := by
 have hl := okRows_len hR
 unfold aTh
 refine fn_sp TT_ok Tryz.func46 (c := _) rfl (by simp [Tryz.ntmps46]) (fun B hI0 hro => ?_)
 rw [Tryz.ntmps46]
 simp only [enumA]
 refine amStr (h := ?_)
 refine amReg PT200_ok (h := ?_)
 refine amStr (h := ?_)
 refine s_regionL ?_
 ((iterate 3 (((with_reducible refine spl_step TT_ok PT200_ok (id := 0) (σ' := ?_) ?_ ?_); rotate_left; (focus (simp [*]; rfl))))))
 refine spl_call TT_ok rfl rfl rfl (by kernel_rfl) Tryz.func79 rfl (avs := [aRows R, .clo 80 [.ptr 1 0 0]]) (cs := []) rfl rfl (by simp [Tryz.ntmps79]) fun B1 hI1 hro1 => ?_
 rw [Tryz.ntmps79, Tryz.results79]
 simp only [enumA, List.append_nil]
 refine amStr (h := ?_)
 refine amReg PT200_ok (h := ?_)
 refine amStr (h := ?_)
 refine s_regionL ?_
 ((iterate 2 (((with_reducible refine spl_step TT_ok PT200_ok (id := 0) (σ' := ?_) ?_ ?_); rotate_left; (focus (simp [*]; rfl))))))
 refine spl_call TT_ok rfl rfl rfl (by kernel_rfl) Tryz.func108 rfl (avs := [aRows R, .clo 80 [.ptr 1 0 0]]) (cs := []) rfl rfl (by simp [Tryz.ntmps108]) fun B2 hI2 hro2 => ?_
 rw [Tryz.ntmps108, Tryz.results108]
 simp only [enumA, List.append_nil]
 refine amStr (h := ?_)
 refine amReg PT200_ok (h := ?_)
 refine amStr (h := ?_)
 refine amReg PT200_ok (h := ?_)
 refine amStr (h := ?_)
 refine s_loopI hI2 (J := fun i : {k : Nat // k ≤ R.length ∧ Hid (∀ j, j < k → R.getD j [] ≠ c)} => ⟨19, [(0, aRows R), (1, .clo 80 [.ptr 1 0 0]), (7, .v (.int .i64 (R.length : Int))), (8, .v (.int .i64 (i.1 : Int)))], [(0, ⟨24, 2, [[.v (.int .i64 N), aRows R]]⟩), (1, ⟨30, 1, [[aInts c]]⟩)], [1, 0]⟩) (μ := fun i => R.length - i.1) ⟨0, Nat.zero_le _, Lib.hid fun j hj => by omega⟩ ?_ (fun ⟨k, hk, HP⟩ => ?_)
 ·(refine weakI_of (fun q => q) ⟨rfl, ?_, ?_, ?_⟩ ?_ <;> ((try simp only [List.mem_cons, List.not_mem_nil, or_false, forall_eq_or_imp, forall_eq]); (try simp (disch := omega) [lk, AV.ids, idsL, idsLL, AV.ren, renL, renLL, i64w, *])))
 refine amStr (h := ?_)
 refine amReg PT200_ok (h := ?_)
 refine amStr (h := ?_)
 (focus ((with_reducible refine sp_cond (b := ?_) ?_ (fun hc => ?_) (fun hc => ?_)); rotate_left; (focus (first | rfl | (simp [lk, AS.ev]; rfl))); all_goals (try simp at hc)))
 ·have hkk := hc
  clear hc
  have hrk := okRows_at hR k
  have hwk : IntKind.i64.wrap ((k : Int) + 1) = (k : Int) + 1 := i64w (by omega) (by omega)
  refine amStr (h := ?_)
  refine amReg PT200_ok (h := ?_)
  refine amStr (h := ?_)
  obtain ⟨d, hd⟩ : ∃ d, R.getD k [] = d := ⟨_, rfl⟩
  rw [hd] at hrk
  refine s_regionL ?_
  ((iterate 5 (((with_reducible refine spl_step TT_ok PT200_ok (id := 0) (σ' := ?_) ?_ ?_); rotate_left; (focus (simp [*]; rfl))))))
  refine spl_call TT_ok rfl rfl rfl (by kernel_rfl) Tryz.func80 rfl (avs := [aInts d]) (cs := [.ptr 1 0 0]) rfl rfl (by simp [Tryz.ntmps80]) fun B3 hI3 hro3 => ?_
  rw [Tryz.ntmps80, Tryz.results80]
  simp only [enumA, List.cons_append, List.nil_append]
  refine amStr (h := ?_)
  refine amReg PT200_ok (h := ?_)
  refine amStr (h := ?_)
  refine amReg PT200_ok (h := ?_)
  refine amStr (h := ?_)
  refine ⟨.inr rfl, .v (.bool (decide (c = d))), ?_, ?_⟩
  ·simp [retA, retL, ret1, lk]
  refine spl_nil ?_
  cases hb : decide (c = d)
  ·have hne : d ≠ c := fun e => by rw [e] at hb; simp at hb
   have hnx : ∀ j, j < k + 1 → R.getD j [] ≠ c := fun j hj => by
    by_cases e : j = k
    ·rw [e, hd]; exact hne
    ·exact HP.out j (by omega)
   have HN := Lib.hid hnx
   clear hnx hne hb
   refine amStr (h := ?_)
   refine amReg PT200_ok (h := ?_)
   refine ki_lp (⟨k + 1, hkk, HN⟩ : {k : Nat // k ≤ R.length ∧ Hid (∀ j, j < k → R.getD j [] ≠ c)}) (by first | omega | (dsimp only; omega)) ?_
   (refine weakI_of (fun q => q) ⟨rfl, ?_, ?_, ?_⟩ ?_ <;> ((try simp only [List.mem_cons, List.not_mem_nil, or_false, forall_eq_or_imp, forall_eq]); (try simp (disch := omega) [lk, AV.ids, idsL, idsLL, AV.ren, renL, renLL, i64w, *])))
  ·have hm : c ∈ R := by
    have := getD_memR hkk
    rw [hd] at this
    rw [of_decide_eq_true hb]; exact this
   have hk0 : (0 : Int) ≤ (k : Int) := by omega
   rw [decide_eq_true hm]
   clear hm hb
   refine amStr (h := ?_)
   refine amReg PT200_ok (h := ?_)
   refine amStr (h := ?_)
   refine ⟨.inr rfl, .v (.int .i64 (k : Int)), ?_, ?_⟩
   ·simp [retA, retL, ret1, lk]
   ((iterate 2 (((with_reducible refine spl_step TT_ok PT200_ok (id := 0) (σ' := ?_) ?_ ?_); rotate_left; (focus (simp [*]; rfl))))))
   refine spl_nil ?_
   refine amStr (h := ?_)
   refine ⟨.inr rfl, .v (.bool true), ?_, ?_⟩
   ·simp [retA, retL, ret1, lk]
   ((iterate 1 (((with_reducible refine spl_step TT_ok PT200_ok (id := 0) (σ' := ?_) ?_ ?_); rotate_left; (focus (simp [*]; rfl))))))
   refine spl_nil ?_
   refine amStr (h := ?_)
   (refine amRt Tryz.results46 (h := ?_); try simp [*])
 ·obtain rfl : k = R.length := by omega
  have hm : c ∉ R := not_mem_all HP.out
  rw [decide_eq_false hm]
  clear hm hc
  refine amStr (h := ?_)
  refine amReg PT200_ok (h := ?_)
  refine amStr (h := ?_)
  refine ⟨.inr rfl, .v (.int .i64 (-1)), ?_, ?_⟩
  ·simp [retA, retL, ret1, lk]
  ((iterate 2 (((with_reducible refine spl_step TT_ok PT200_ok (id := 0) (σ' := ?_) ?_ ?_); rotate_left; (focus (simp [*]; rfl))))))
  refine spl_nil ?_
  refine amStr (h := ?_)
  refine ⟨.inr rfl, .v (.bool false), ?_, ?_⟩
  ·simp [retA, retL, ret1, lk]
  ((iterate 1 (((with_reducible refine spl_step TT_ok PT200_ok (id := 0) (σ' := ?_) ?_ ?_); rotate_left; (focus (simp [*]; rfl))))))
  refine spl_nil ?_
  refine amStr (h := ?_)
  (refine amRt Tryz.results46 (h := ?_); try simp [*])
theorem ext_rows {R S : List (List Int)} (hl : R.length = S.length) (h : ∀ j, j < R.length → R.getD j [] = S.getD j []) : R = S := by
 apply List.ext_getElem hl
 intro i h1 h2
 have := h i h1
 rwa [List.getD_eq_getElem?_getD, List.getElem?_eq_getElem h1, List.getD_eq_getElem?_getD, List.getElem?_eq_getElem h2] at this
theorem same_p (N : Int) (R : List (List Int)) (M : Int) (S : List (List Int)) (hN : okI N = true) (hR : okRows R = true) (hM : okI M = true) (hS : okRows S = true) : FnPure Tryz.prog 27 [aTh N R, aTh M S] (.v (.bool (decide (R = S)))) := by
 have hl := okRows_len hR
 have hl2 := okRows_len hS
 unfold aTh
 refine fn_sp TT_ok Tryz.func27 (c := _) rfl (by simp [Tryz.ntmps27]) (fun B hI0 hro => ?_)
 rw [Tryz.ntmps27]
 simp only [enumA]
 refine amStr (h := ?_)
 refine amReg PT200_ok (h := ?_)
 refine amStr (h := ?_)
 refine s_regionL ?_
 ((iterate 4 (((with_reducible refine spl_step TT_ok PT200_ok (id := 0) (σ' := ?_) ?_ ?_); rotate_left; (focus (simp [*]; rfl))))))
 refine spl_call TT_ok rfl rfl rfl (by kernel_rfl) Tryz.func57 rfl (avs := [aRows R, aRows S, .v (.func (.func 58) #[] #[])]) (cs := []) rfl rfl (by simp [Tryz.ntmps57]) fun B1 hI1 hro1 => ?_
 rw [Tryz.ntmps57, Tryz.results57]
 simp only [enumA, List.append_nil]
 by_cases hlen : R.length = S.length
 ·have hle : (R.length : Int) = (S.length : Int) := by omega
  refine amStr (h := ?_)
  refine amReg PT200_ok (h := ?_)
  refine amStr (h := ?_)
  refine amReg PT200_ok (h := ?_)
  refine amStr (h := ?_)
  refine amReg PT200_ok (h := ?_)
  refine amStr (h := ?_)
  refine s_loopI hI1 (J := fun i : {k : Nat // k ≤ R.length ∧ Hid (∀ j, j < k → R.getD j [] = S.getD j [])} => ⟨32, [(0, aRows R), (1, aRows S), (2, .v (.func (.func 58) #[] #[])), (15, aRows R), (16, .v (.int .i64 (S.length : Int))), (17, .v (.int .i64 (i.1 : Int)))], [(0, ⟨24, 2, [[.v (.int .i64 N), aRows R]]⟩), (1, ⟨24, 2, [[.v (.int .i64 M), aRows S]]⟩)], [1, 0]⟩) (μ := fun i => R.length - i.1) ⟨0, Nat.zero_le _, Lib.hid fun j hj => by omega⟩ ?_ (fun ⟨k, hk, HP⟩ => ?_)
  ·(refine weakI_of (fun q => q) ⟨rfl, ?_, ?_, ?_⟩ ?_ <;> ((try simp only [List.mem_cons, List.not_mem_nil, or_false, forall_eq_or_imp, forall_eq]); (try simp (disch := omega) [lk, AV.ids, idsL, idsLL, AV.ren, renL, renLL, i64w, *])))
  refine amStr (h := ?_)
  refine amReg PT200_ok (h := ?_)
  refine amStr (h := ?_)
  (focus ((with_reducible refine sp_cond (b := ?_) ?_ (fun hc => ?_) (fun hc => ?_)); rotate_left; (focus (first | rfl | (simp [lk, AS.ev]; rfl))); all_goals (try simp at hc)))
  ·have hkk : k < R.length := by omega
   have hkS : k < S.length := by omega
   have hkR : (k : Int) < (S.length : Int) := by omega
   clear hc
   have hrk := okRows_at hR k
   have hsk := okRows_at hS k
   have hwk : IntKind.i64.wrap ((k : Int) + 1) = (k : Int) + 1 := i64w (by omega) (by omega)
   obtain ⟨c, hcc⟩ : ∃ c, R.getD k [] = c := ⟨_, rfl⟩
   obtain ⟨d, hd⟩ : ∃ d, S.getD k [] = d := ⟨_, rfl⟩
   rw [hcc] at hrk
   rw [hd] at hsk
   refine amStr (h := ?_)
   refine amReg PT200_ok (h := ?_)
   refine amStr (h := ?_)
   refine amReg PT200_ok (h := ?_)
   refine amStr (h := ?_)
   refine amReg PT200_ok (h := ?_)
   cases hb : decide (c = d)
   ·have hne : R ≠ S := fun e => by rw [← hcc, ← hd, e] at hb; simp at hb
    rw [decide_eq_false hne]
    clear hne
    refine amStr (h := ?_)
    refine amReg PT200_ok (h := ?_)
    refine amStr (h := ?_)
    refine ⟨.inr rfl, .v (.bool false), ?_, ?_⟩
    ·simp [retA, retL, ret1, lk]
    ((iterate 1 (((with_reducible refine spl_step TT_ok PT200_ok (id := 0) (σ' := ?_) ?_ ?_); rotate_left; (focus (simp [*]; rfl))))))
    refine spl_nil ?_
    refine amStr (h := ?_)
    (refine amRt Tryz.results27 (h := ?_); try simp [*])
   ·have hnx : ∀ j, j < k + 1 → R.getD j [] = S.getD j [] := fun j hj => by
     by_cases e : j = k
     ·rw [e, hcc, hd]; exact of_decide_eq_true hb
     ·exact HP.out j (by omega)
    have HN := Lib.hid hnx
    clear hnx hb
    refine amStr (h := ?_)
    refine amReg PT200_ok (h := ?_)
    refine ki_lp (⟨k + 1, hkk, HN⟩ : {k : Nat // k ≤ R.length ∧ Hid (∀ j, j < k → R.getD j [] = S.getD j [])}) (by first | omega | (dsimp only; omega)) ?_
    (refine weakI_of (fun q => q) ⟨rfl, ?_, ?_, ?_⟩ ?_ <;> ((try simp only [List.mem_cons, List.not_mem_nil, or_false, forall_eq_or_imp, forall_eq]); (try simp (disch := omega) [lk, AV.ids, idsL, idsLL, AV.ren, renL, renLL, i64w, *])))
  ·obtain rfl : k = R.length := by omega
   have he : R = S := ext_rows hlen HP.out
   rw [decide_eq_true he]
   clear hc he
   refine amStr (h := ?_)
   refine amReg PT200_ok (h := ?_)
   refine amStr (h := ?_)
   refine ⟨.inr rfl, .v (.bool true), ?_, ?_⟩
   ·simp [retA, retL, ret1, lk]
   ((iterate 1 (((with_reducible refine spl_step TT_ok PT200_ok (id := 0) (σ' := ?_) ?_ ?_); rotate_left; (focus (simp [*]; rfl))))))
   refine spl_nil ?_
   refine amStr (h := ?_)
   (refine amRt Tryz.results27 (h := ?_); try simp [*])
 ·have hle : ((R.length : Int) != (S.length : Int)) = true := by simp; omega
  have hne : R ≠ S := fun e => hlen (by rw [e])
  rw [decide_eq_false hne]
  clear hne
  refine amStr (h := ?_)
  refine amReg PT200_ok (h := ?_)
  refine amStr (h := ?_)
  refine amReg PT200_ok (h := ?_)
  refine amStr (h := ?_)
  refine amReg PT200_ok (h := ?_)
  refine amStr (h := ?_)
  refine ⟨.inr rfl, .v (.bool false), ?_, ?_⟩
  ·simp [retA, retL, ret1, lk]
  ((iterate 1 (((with_reducible refine spl_step TT_ok PT200_ok (id := 0) (σ' := ?_) ?_ ?_); rotate_left; (focus (simp [*]; rfl))))))
  refine spl_nil ?_
  refine amStr (h := ?_)
  (refine amRt Tryz.results27 (h := ?_); try simp [*])
theorem litOk_ne {l N : Int} (h : litOk l N = true) : l ≠ 0 ∧ -128 ≤ l ∧ l ≤ 128 := by
 unfold litOk at h
 rw [Bool.and_eq_true, decide_eq_true_eq] at h
 have h1 := h.1
 unfold litVar at h1
 split at h1
 ·omega
 ·split at h1 <;> omega
theorem term_one {l N : Int} (h : litOk l N = true) : termR N [l] = true := by
 have := litOk_ne h
 unfold termR
 simp only [List.all_cons, List.all_nil, Bool.and_true, h, Bool.true_and, List.mem_singleton, Bool.not_eq_true', decide_eq_false_iff_not]
 omega
theorem gv_check {N : Int} {R : List (List Int)} (hz : checkT N R = 0) (l : Int) : checkT N (gvV R l) = 0 := normL_check (givenT_check hz [l])
theorem vgiven_p (N : Int) (R : List (List Int)) (l : Int) (hN : okI N = true) (hR : okRows R = true) (hl : okI l = true) (hz : checkT N R = 0) (hk : litOk l N = true) : FnPure Tryz.prog 83 [aTh N R, .v (.int .i64 l)] (aTh N (gvV R l)) := by
 have hgA : givenA N R [l] = .tup [.agg [.v (.int .i64 N), aRows (givenT [l] R)], .v (.int .i64 0)] := by unfold givenA; rw [if_pos hz, if_pos (term_one hk)]; rfl
 have hgc := givenT_check hz [l]
 have hnA : normA N (givenT [l] R) = .tup [.agg [.v (.int .i64 N), aRows (normL (givenT [l] R))], .v (.int .i64 0)] := by unfold normA; rw [if_pos hgc]; rfl
 have hgr := okRows_check hgc
 have ht1 : toInts (.sl 1 [[.v (.int .i64 l)]]) = some [l] := rfl
 have ho1 : okInts [l] = true := by unfold okInts; simp [hl]
 unfold gvV
 clear hgc
 generalize givenT [l] R = Y at hgA hnA hgr ⊢
 generalize normL Y = Z at hnA ⊢
 unfold aTh
 refine fn_sp TT_ok Tryz.func83 (c := _) rfl (by simp [Tryz.ntmps83]) (fun B hI0 hro => ?_)
 rw [Tryz.ntmps83]
 simp only [enumA]
 refine amStr (h := ?_)
 refine amReg PT200_ok (h := ?_)
 refine amStr (h := ?_)
 refine s_regionL ?_
 ((iterate 2 (((with_reducible refine spl_step TT_ok PT200_ok (id := 0) (σ' := ?_) ?_ ?_); rotate_left; (focus (simp [*]; rfl))))))
 (((with_reducible refine spl_step TT_ok PT200_ok (id := 60) (σ' := ?_) ?_ ?_); rotate_left; (focus (simp [*]; rfl))))
 refine spl_frz (fun q => q == 60) ?_
 (refine spl_eq (τ := ?_) ?_ ?_; rotate_left; (focus ((try simp only [AS.frz, List.map_cons, List.map_nil]); (try simp [frzV, frzO, frzC, List.filter]); rfl)))
 ((iterate 5 (((with_reducible refine spl_step TT_ok PT200_ok (id := 0) (σ' := ?_) ?_ ?_); rotate_left; (focus (simp [*]; rfl))))))
 refine spl_nil ?_
 refine amStr (h := ?_)
 refine amReg PT200_ok (h := ?_)
 refine amStr (h := ?_)
 refine amReg PT200_ok (h := ?_)
 refine amStr (h := ?_)
 (refine amRt Tryz.results83 (h := ?_); try simp [*])
@[simp] def g_vHasC : List AV → Option (AV × Bool)
 | [.agg [.v (.int .i64 N), a0], a1] => (match toRows a0 with | some R => (match toInts a1 with | some c => if (okI N && okRows R && okInts c) = true then some (.v (.bool (decide (c ∈ R))), false) else none | none => none) | none => none)
 | _ => none
theorem e_vHasC : EntOk Tryz.prog 46 g_vHasC := ent_pure (by kernel_rfl) fun args r fr h => by
 unfold g_vHasC at h
 split at h
 ·rename_i N a0 a1
  split at h
  ·rename_i R t0
   split at h
   ·rename_i c t1
    split at h
    ·rename_i hc
     simp only [Bool.and_eq_true] at hc
     obtain ⟨⟨m0, o0⟩, o1⟩ := hc
     cases h
     exact ⟨FnPure.cov (has_p N R c m0 o0 o1) (.cons (cov_th _ (cov_rows t0)) (.cons (cov_ints t1) .nil)), rfl⟩
    ·cases h
   ·cases h
  ·cases h
 ·cases h

@[simp] def g_vSame : List AV → Option (AV × Bool)
 | [.agg [.v (.int .i64 N), a0], .agg [.v (.int .i64 M), a1]] => (match toRows a0 with | some R => (match toRows a1 with | some S => if (okI N && okRows R && okI M && okRows S) = true then some (.v (.bool (decide (R = S))), false) else none | none => none) | none => none)
 | _ => none
theorem e_vSame : EntOk Tryz.prog 27 g_vSame := ent_pure (by kernel_rfl) fun args r fr h => by
 unfold g_vSame at h
 split at h
 ·rename_i N a0 M a1
  split at h
  ·rename_i R t0
   split at h
   ·rename_i S t1
    split at h
    ·rename_i hc
     simp only [Bool.and_eq_true] at hc
     obtain ⟨⟨⟨m0, o0⟩, m1⟩, o1⟩ := hc
     cases h
     exact ⟨FnPure.cov (same_p N R M S m0 o0 m1 o1) (.cons (cov_th _ (cov_rows t0)) (.cons (cov_th _ (cov_rows t1)) .nil)), rfl⟩
    ·cases h
   ·cases h
  ·cases h
 ·cases h

@[simp] def g_vGiven : List AV → Option (AV × Bool)
 | [.agg [.v (.int .i64 N), a0], .v (.int .i64 l)] => (match toRows a0 with | some R => if (okI N && okRows R && okI l && (decide (checkT N R = 0) && litOk l N)) = true then some (aTh N (gvV R l), false) else none | none => none)
 | _ => none
theorem e_vGiven : EntOk Tryz.prog 83 g_vGiven := ent_pure (by kernel_rfl) fun args r fr h => by
 unfold g_vGiven at h
 split at h
 ·rename_i N a0 l
  split at h
  ·rename_i R t0
   split at h
   ·rename_i hc
    simp only [Bool.and_eq_true] at hc
    obtain ⟨⟨⟨m0, o0⟩, o1⟩, hk⟩ := hc
    cases h
    exact ⟨FnPure.cov (vgiven_p N R l m0 o0 o1 (of_decide_eq_true hk.1) hk.2) (.cons (cov_th _ (cov_rows t0)) (.cons (Cov.refl _) .nil)), rfl⟩
   ·cases h
  ·cases h
 ·cases h

def l201 : List (FuncId × (List AV → Option (AV × Bool))) :=
 (46, g_vHasC) :: (27, g_vSame) :: (83, g_vGiven) :: l200
theorem l201_ok : ∀ p ∈ l201, EntOk Tryz.prog p.1 p.2 := ent_cons e_vHasC (ent_cons e_vSame (ent_cons e_vGiven (l200_ok)))
def PT201 : PTab := tab l201
theorem PT201_ok : PTok Tryz.prog PT201 := tab_ok l201_ok
@[simp] theorem PT201_vHasC : PT201 46 = g_vHasC := rfl
@[simp] theorem PT201_vSame : PT201 27 = g_vSame := rfl
@[simp] theorem PT201_vGiven : PT201 83 = g_vGiven := rfl
@[simp] theorem PT201_old (f : FuncId) (h : decide (f ≠ 46 ∧ f ≠ 27 ∧ f ≠ 83) = true) : PT201 f = PT200 f := (fun h => Eq.trans (tab_old h.1) (Eq.trans (tab_old h.2.1) (tab_old h.2.2))) (of_decide_eq_true h)
end Go.Proofs.YtllkogdgmmcfgaaGreatDoor
/- Vl23: verify.literal; no condition. -/
namespace Go.Proofs.YtllkogdgmmcfgaaGreatDoor
set_option linter.unusedVariables false
set_option linter.unusedSimpArgs false
set_option linter.unusedSectionVars false
open Go.RowKit
open Wlk
attribute [-simp] List.getD_eq_getElem?_getD
set_option maxRecDepth 100000
def prfB (N : Int) (L : List (List Int)) (ns : List Nd) (cl : List Cl) : Bool := okI N && okRows L && okNs ns && okCl cl && decide (checkT N L = 0) && validN N ns && decide (cl.length = ns.length)
structure Prf (N : Int) (L : List (List Int)) (ns : List Nd) (cl : List Cl) : Prop where
 hN : okI N = true
 hL : okRows L = true
 hns : okNs ns = true
 hcl : okCl cl = true
 hz : checkT N L = 0
 hv : validN N ns = true
 hlen : cl.length = ns.length
theorem prf_of {N : Int} {L : List (List Int)} {ns : List Nd} {cl : List Cl} (h : prfB N L ns cl = true) : Prf N L ns cl := by
 unfold prfB at h
 simp only [Bool.and_eq_true, decide_eq_true_eq] at h
 exact ⟨h.1.1.1.1.1.1, h.1.1.1.1.1.2, h.1.1.1.1.2, h.1.1.1.2, h.1.1.2, h.1.2, h.2⟩
def idxB (ns : List Nd) (is : List Int) : Bool := is.all fun i => decide (0 ≤ i) && decide (i < (ns.length : Int))
theorem idxB_mem {ns : List Nd} {is : List Int} (h : idxB ns is = true) {i : Int} (hi : i ∈ is) : 0 ≤ i ∧ i < (ns.length : Int) := by
 have := List.all_eq_true.1 h i hi
 simpa using this
theorem prf_in {N : Int} {L : List (List Int)} {ns : List Nd} {cl : List Cl} (h : Prf N L ns cl) {i : Nat} (hi : i < ns.length) : idxB ns (ns.getD i nd0).2.2 = true := by
 refine List.all_eq_true.2 fun k hk => ?_
 have := form_in (valid_form h.hv hi) hk
 simp only [Bool.and_eq_true, decide_eq_true_eq]
 omega
theorem cov_prf2 {N M : Int} {a b c : AV} {L : List (List Int)} {ns : List Nd} {cl : List Cl} (e : decide (M = N) = true) (h1 : toRows a = some L) (h2 : toNds b = some ns) (h3 : toCls c = some cl) : Cov (.pt [.v (.int .i64 N), a, .v (.int .i64 M), b, c]) (aPrf N L ns cl) := by
 have := of_decide_eq_true e
 subst this
 exact cov_prf h1 h2 h3
theorem lit1_looks (N : Int) (L : List (List Int)) (ns : List Nd) (cl : List Cl) (k j l : Int) (is : List Int) (hp : Prf N L ns cl) (his : okInts is = true) (hin : idxB ns is = true) : Looks Tryz.prog [(0, ⟨58, 1, [[aPrf N L ns cl]]⟩), (1, ⟨32, 3, [[.v (.int .i64 k), .v (.int .i64 j), aInts is]]⟩), (2, ⟨3, 1, [[.v (.int .i64 l)]]⟩)] [2, 1, 0] 113 [.ptr 0 0 0, .ptr 2 0 0] (avI is) (onI (litI ns l)) := by
 refine ⟨by kernel_rfl, _, _, Tryz.func113, rfl, by simp [Tryz.ntmps113], fun x hxm B hI hro => ?_⟩
 obtain ⟨y, hy, rfl⟩ := List.mem_map.1 hxm
 have ho := okInts_mem his y hy
 obtain ⟨y0, y1⟩ := idxB_mem hin hy
 obtain ⟨m, rfl⟩ := Int.eq_ofNat_of_zero_le y0
 have hm : m < ns.length := by omega
 obtain ⟨o1, o2, _, _⟩ := okNs_at hp.hns hm
 have hon : onI (litI ns l) (.v (.int .i64 (m : Int))) = (decide ((ns.getD m nd0).1 = 2) && decide ((ns.getD m nd0).2.1 = l)) := rfl
 obtain ⟨K, hK⟩ : ∃ K, (ns.getD m nd0).1 = K := ⟨_, rfl⟩
 rw [hK] at hon
 rw [Tryz.ntmps113, Tryz.results113, hon]
 clear hon
 simp only [enumA]
 unfold aPrf aNds
 by_cases hk2 : K = 2
 ·subst hk2
  refine amGo PT201_ok (h := ?_)
  refine ⟨.inr rfl, ?_, rfl, rfl⟩
  simp [retA, retL, ret1, lk, st]
  rw [Bool.eq_iff_iff]
  simp
 ·have hkb : (K == 2) = false := by simpa using hk2
  refine amGo PT201_ok (h := ?_)
  refine ⟨.inr rfl, ?_, rfl, rfl⟩
  simp [retA, retL, ret1, lk, st]
  exact fun e => absurd e hk2
theorem literal_p (N : Int) (L : List (List Int)) (ns : List Nd) (cl : List Cl) (k j l : Int) (is : List Int) (hp : Prf N L ns cl) (hk : okI k = true) (hj : okI j = true) (hl : okI l = true) (his : okInts is = true) (hin : idxB ns is = true) : FnPure Tryz.prog 91 [aPrf N L ns cl, .agg [.v (.int .i64 k), .v (.int .i64 j), aInts is], .v (.int .i64 l)] (.v (.int .i64 (idxF is (litI ns l)))) := by
 have hlen := okInts_len his
 have hlk := lit1_looks N L ns cl k j l is hp his hin
 refine fn_sp TT_ok Tryz.func91 (c := _) rfl (by simp [Tryz.ntmps91]) (fun B hI0 hro => ?_)
 rw [Tryz.ntmps91]
 simp only [enumA]
 refine amStr (h := ?_)
 refine amReg PT201_ok (h := ?_)
 refine amStr (h := ?_)
 refine s_regionL ?_
 ((iterate 3 (((with_reducible refine spl_step TT_ok PT201_ok (id := 0) (σ' := ?_) ?_ ?_); rotate_left; (focus (simp [*]; rfl))))))
 refine spl_call TT_ok rfl rfl rfl (by kernel_rfl) Tryz.func84 rfl (avs := [aInts is, .clo 113 [.ptr 0 0 0, .ptr 2 0 0]]) (cs := []) rfl rfl (by simp [Tryz.ntmps84]) fun B2 hI2 hro2 => ?_
 refine sp_mono (idxFI_sp (known_of (by simp [AV.ids, idsL, idsLL, aPrf, aNds, aCls])) (by omega) (by simp [AV.ids, idsL]) hlk rfl hI2) fun e τ hq => ?_
 obtain ⟨h1, h2, h3, h4⟩ := hq
 refine ⟨h1, _, h2, ?_⟩
 rw [h3, h4]
 ((iterate 1 (((with_reducible refine spl_step TT_ok PT201_ok (id := 0) (σ' := ?_) ?_ ?_); rotate_left; (focus (simp [*]; rfl))))))
 refine spl_nil ?_
 refine amStr (h := ?_)
 (refine amRt Tryz.results91 (h := ?_); try simp [*])
@[simp] def g_vLitI : List AV → Option (AV × Bool)
 | [.pt [.v (.int .i64 N), a0, .v (.int .i64 N'), b0, c0], .agg [.v (.int .i64 k), .v (.int .i64 j), a1], .v (.int .i64 l)] => (match toRows a0 with | some L => (match toNds b0 with | some ns => (match toCls c0 with | some cl => (match toInts a1 with | some is => if (decide (N' = N) && prfB N L ns cl && okI k && okI j && okInts is && okI l && idxB ns is) = true then some (.v (.int .i64 (idxF is (litI ns l))), false) else none | none => none) | none => none) | none => none) | none => none)
 | _ => none
theorem e_vLitI : EntOk Tryz.prog 91 g_vLitI := ent_pure (by kernel_rfl) fun args r fr h => by
 unfold g_vLitI at h
 split at h
 ·rename_i N a0 N' b0 c0 k j a1 l
  split at h
  ·rename_i L t0
   split at h
   ·rename_i ns s0
    split at h
    ·rename_i cl w0
     split at h
     ·rename_i is t1
      split at h
      ·rename_i hc
       simp only [Bool.and_eq_true] at hc
       obtain ⟨⟨⟨⟨⟨⟨e0, o0⟩, m1⟩, l1⟩, o1⟩, o2⟩, hk⟩ := hc
       cases h
       exact ⟨FnPure.cov (literal_p N L ns cl k j l is (prf_of o0) m1 l1 o2 o1 hk) (.cons (cov_prf2 e0 t0 s0 w0) (.cons (cov_nd _ _ t1) (.cons (Cov.refl _) .nil))), rfl⟩
      ·cases h
     ·cases h
    ·cases h
   ·cases h
  ·cases h
 ·cases h

end Go.Proofs.YtllkogdgmmcfgaaGreatDoor
/- Am21: An abstract machine for the text, part twenty-one: a call that reads what it is handed and makes one object, in a region of open order; plain lemmas over any program; no condition. -/
namespace Go.Proofs.YtllkogdgmmcfgaaGreatDoor
set_option linter.unusedVariables false
set_option linter.unusedSimpArgs false
set_option linter.unusedSectionVars false
open Go.RowKit
structure Ok1 (p : Prop) : Prop where
 h : p
section
variable {P : Program} {TT : TTab} {PT : PTab} {B : Base} {ops : Array Oper} {es : List Ef}
open Classical in
noncomputable def effOr (TT : TTab) (PT : PTab) (ops : Array Oper) (σ0 : AS) (o0 : Oper) (e0 : Ef) (id : Nat) (σ : AS) (o : Oper) : Option Ef := if o = o0 ∧ σ = σ0 then some e0 else effA TT PT ops id σ o
theorem s_drawX {σ' : AS} {σ : AS} {Q : Exit → AS → Prop} (hP : P.follows .mixedOrders = true) (hTT : TTok P TT) (hPT : PTok P PT) {σ0 : AS} {o0 : Oper} {e0 : Ef} (he0 : ∀ D, Ok1 (EffOk P (B.d D) ops σ0 o0 e0)) {id q : Nat} (h : runG (effOr TT PT ops σ0 o0 e0) ops.toList q σ = some (σ', es)) (hok : ordOk ops.toList es = true) (k : Q .normal σ') : SP P B (.region id ops true) σ Q := by
 refine s_drawG hP (fun D id σ o e he => ?_) h hok k
 unfold effOr at he
 split at he
 ·rename_i hc
  obtain ⟨rfl, rfl⟩ := hc
  cases he
  exact (he0 D).h
 ·exact effA_eff hTT hPT he
theorem runX_nil {eff : Nat → AS → Oper → Option Ef} {id : Nat} {σ : AS} : runG eff [] id σ = some (σ, []) := rfl
theorem runX_cons {σ0 : AS} {o0 : Oper} {e0 e : Ef} {id : Nat} {o : Oper} {r : List Oper} {σ σ1 σ' : AS} (hne : o.dst ≠ o0.dst) (h : effA TT PT ops id σ o = some e) (h1 : e.app σ = σ1) (k : runG (effOr TT PT ops σ0 o0 e0) r (id + 1) σ1 = some (σ', es)) : runG (effOr TT PT ops σ0 o0 e0) (o :: r) id σ = some (σ', e :: es) := by
 have : effOr TT PT ops σ0 o0 e0 id σ o = some e := by
  unfold effOr
  rw [if_neg (fun hc => hne (by rw [hc.1]))]; exact h
 simp only [runG, this, h1, k]
theorem runX_call {σ0 : AS} {o0 : Oper} {e0 : Ef} {id : Nat} {r : List Oper} {σ1 σ' : AS} (h1 : e0.app σ0 = σ1) (k : runG (effOr TT PT ops σ0 o0 e0) r (id + 1) σ1 = some (σ', es)) : runG (effOr TT PT ops σ0 o0 e0) (o0 :: r) id σ0 = some (σ', e0 :: es) := by
 have : effOr TT PT ops σ0 o0 e0 id σ0 o0 = some e0 := by
  unfold effOr
  rw [if_pos ⟨rfl, rfl⟩]
 simp only [runG, this, h1, k]
end
end Go.Proofs.YtllkogdgmmcfgaaGreatDoor
/- Am29: An abstract machine for the text, part twenty-nine: an append inside of what is there, in a region of open order; plain lemmas over any program; no condition. -/
namespace Go.Proofs.YtllkogdgmmcfgaaGreatDoor
set_option linter.unusedVariables false
set_option linter.unusedSimpArgs false
set_option linter.unusedSectionVars false
open Go.RowKit
section
variable {P : Program} {TT : TTab} {PT : PTab} {B : Base} {ops : Array Oper} {es : List Ef}
theorem eff_core {σ : AS} {o : Oper} {r : Res} {fp : List Nat} (hd : dstOk σ o = true) (hwt : wantA σ ops o = some true) (h : ∀ τ : AS, (∀ x ∈ o.op.operands.toList, τ.ev x = σ.ev x) → (∀ k ∈ fp, lk τ.objs k = lk σ.objs k) → CoreOk P o τ r) (hnd : ∀ c, o.op ≠ .defer c) : Ok1 (EffOk P B ops σ o ⟨o.dst, r.1, r.2, looksO ops o, fp, none⟩) := by
 constructor
 intro τ hn hs hobj hidk hsh G w a hr K Q hK
 simp only at hs hobj hidk
 have hd' : dstOk τ o = true := by unfold dstOk at hd ⊢; rw [hn]; exact hd
 have hev : ∀ x ∈ o.op.operands.toList, τ.ev x = σ.ev x := fun x hx => by
  cases x with
  | tmp t => exact hs t (by rw [looksO, List.mem_append]; exact .inl (List.mem_filterMap.2 ⟨.tmp t, hx, rfl⟩))
  | _ => rfl
 have hw : wantA τ ops o = wantA σ ops o := by
  unfold wantA
  split
  ·rfl
  ·rename_i j want hg
   split
   ·rename_i t ht
    rw [hs t (by rw [looksO, List.mem_append]; right; rw [hg]; simp only [ht]; simp)]
   ·rfl
 rw [← hw] at hwt
 rw [if_pos (wantA_ok hr hwt)]
 exact wp_FR hnd (h τ hev hobj B G w a hr K Q fun G' w' x hle hr' hx => hK G' w' _ (by
  have := hr'.put (fun d hdd => R.dst (G := G) (w := w) (a := a) hd' d hdd) hx
  unfold Ef.app Ef.pk pntO
  simpa [AS.upd] using this))
theorem eff_appIn (hTT : TTok P TT) {σ : AS} {o : Oper} {s x : Operand} {t : TypeId} {ti : TI} {k off n off2 m : Nat} {ob : AObj} {e : TypeId} {esz eb : Nat} {ez : List Value} (ho : o.op = .call { callee := .builtin .append, args := #[s, x], argTypes := #[t, t] }) (hd : dstOk σ o = true) (hwt : wantA σ ops o = some true) (hti : TT t = some ti) (hk : ti.kind = .slice e esz eb ez)
  (hs : σ.ev s = some (.ref k off n)) (hx : σ.ev x = some (.ref k off2 m)) (hob : lk σ.objs k = some ob) (hsz : ob.sz = esz) (h1 : off < ob.xs.length) (h2 : off + n + m ≤ ob.xs.length) (h3 : off2 + m ≤ ob.xs.length) :
  Ok1 (EffOk P B ops σ o ⟨o.dst, .ref k off (n + m), [(k, some { ob with xs := spl ob.xs (off + n) ((ob.xs.drop off2).take m) })], looksO ops o, [k], none⟩) := by
 have hm : ((ob.xs.drop off2).take m).length = m := by rw [List.length_take, List.length_drop]; omega
 refine eff_core (r := (.ref k off (n + m), [(k, some { ob with xs := spl ob.xs (off + n) ((ob.xs.drop off2).take m) })])) hd hwt (fun τ hev hfp => ?_) (fun c hc => by rw [ho] at hc; cases hc)
 have e1 : τ.ev s = some (.ref k off n) := by rw [hev s (by rw [ho]; simp [Op.operands, Call.operands])]; exact hs
 have e2 : τ.ev x = some (.ref k off2 m) := by rw [hev x (by rw [ho]; simp [Op.operands, Call.operands])]; exact hx
 have e3 : lk τ.objs k = some ob := by rw [hfp k (by simp)]; exact hob
 refine (coreX_ok hTT (id := 0) ?_).1
 unfold coreX
 rw [ho]
 simp only [if_true]
 unfold cAppIn
 rw [hti, e1, e2]
 simp only [hk, e3]
 have hrow : τ.rows ob.sz (.ref k off2 m) = some ((ob.xs.drop off2).take m) := by
  unfold AS.rows
  simp only [e3]
  simp [h3]
 rw [hrow]
 simp only [hm]
 rw [if_pos ⟨hsz, h1, h2⟩]
theorem ok_slice3 {σ : AS} {o : Oper} {t : TypeId} {ti : TI} {e : TypeId} {esz eb : Nat} {ez : List Value} {x y1 y2 y3 : Operand} {k off n a1 a2 a3 : Nat} {k1 k2 k3 : IntKind} {ob : AObj} (hT : TIok P t ti) (hk : ti.kind = .slice e esz eb ez) (ho : o.op = .slice t x (some y1) (some y2) (some y3)) (hx : σ.ev x = some (.ref k off n))
  (h1 : σ.ev y1 = some (.v (.int k1 (a1 : Int)))) (h2 : σ.ev y2 = some (.v (.int k2 (a2 : Int)))) (h3 : σ.ev y3 = some (.v (.int k3 (a3 : Int)))) (hob : lk σ.objs k = some ob) (hsz : ob.sz = esz) (hpos : 0 < n) (hle : off + n ≤ ob.xs.length) (l1 : a1 ≤ a2) (l2 : a2 ≤ a3) (l3 : a3 ≤ n) :
  CoreOk P o σ (.any, []) := by
 intro B G w a hr K Q hK
 obtain ⟨_, _, d, _, _, g3, _, _, _, hkk⟩ := hT.i
 rw [hk] at hkk
 obtain ⟨rfl, j, y', hj1, hj2, hj3, hj4, hj5⟩ := hkk
 have hsz' : ∀ w, (sizeOf e).run P w = .ok esz w := fun w => size_of_info hj1 hj2
 have v1 := (hr.ev h1).v_eq
 have v2 := (hr.ev h2).v_eq
 have v3 := (hr.ev h3).v_eq
 have hxv := hr.ev hx
 generalize hv : a.eval x = v at hxv
 cases hxv with
 | ref _ _ _ blk base cap sz ad hl hle' hcm hb' h0 =>
  have s1 : (Instr.sliceBound (.int k3 (a3 : Int)) (cap - off) .slice3Acap).run P w = .ok a3 w := run_sliceBound w k3 a3 (cap - off) _ (by omega) (by omega)
  have s2 : (Instr.sliceBound (.int k2 (a2 : Int)) a3 .slice3B).run P w = .ok a2 w := run_sliceBound w k2 a2 a3 _ (by omega) (by omega)
  have s3 : (Instr.sliceBound (.int k1 (a1 : Int)) a2 .slice3C).run P w = .ok a1 w := run_sliceBound w k1 a1 a2 _ (by omega) (by omega)
  unfold Oper.wp
  obtain ⟨u, hrun⟩ : ∃ u, (execOp a.eval o).run P w = .ok (.value u) w := by
   unfold execOp
   rw [ho]
   simp only [Instr.sliceAt, hv, Option.map_some, v1, v2, v3, Sem.run_bind, run_underlying g3, Result.andThen_ok, Instr.slice, Instr.sliceBounds, if_true, Option.isSome_some, s1, s2, s3, hsz', Sem.run_pure]
   exact ⟨_, rfl⟩
  rw [hrun]
  exact hK G w u (Gh.le.refl G) (by simpa [AS.upd, updO, updI] using hr) (.any u)
theorem ok_slice_cap {σ : AS} {o : Oper} {t : TypeId} {ti : TI} {e : TypeId} {esz eb : Nat} {ez : List Value} {x y1 y2 : Operand} {k off n l h : Nat} {k1 k2 : IntKind} {ob : AObj} (hT : TIok P t ti) (hk : ti.kind = .slice e esz eb ez) (ho : o.op = .slice t x (some y1) (some y2) none) (hx : σ.ev x = some (.ref k off n))
  (h1 : σ.ev y1 = some (.v (.int k1 (l : Int)))) (h2 : σ.ev y2 = some (.v (.int k2 (h : Int)))) (hob : lk σ.objs k = some ob) (hsz : ob.sz = esz) (hlh : l ≤ h) (hle : off + h ≤ ob.xs.length) : CoreOk P o σ (.ref k (off + l) (h - l), []) :=
 CoreOk.pure fun B G w a hr => by
  have hpz := hT.epos _ _ _ _ hk
  obtain ⟨_, _, d, _, _, h3, _, _, _, hkk⟩ := hT.i
  rw [hk] at hkk
  obtain ⟨rfl, j, z, hj1, hj2, hj3, hj4, hj5⟩ := hkk
  have hsz' : ∀ w, (sizeOf e).run P w = .ok esz w := fun w => size_of_info hj1 hj2
  have v1 := (hr.ev h1).v_eq
  have v2 := (hr.ev h2).v_eq
  have hxv := hr.ev hx
  generalize hv : a.eval x = v at hxv
  cases hxv with
  | ref _ _ _ blk base cap sz ad hl hle' hcm hb' h0 =>
   obtain ⟨blk', ba, ca, g1, g2, _⟩ := (hr.heap.obj k ob hob).cells (by omega)
   rw [hl] at g1
   cases g1
   subst hsz
   have s2 : (Instr.sliceBound (.int k2 (h : Int)) (cap - off) .sliceAcap).run P w = .ok h w := run_sliceBound w k2 h (cap - off) _ (by omega) (by omega)
   have s1 : (Instr.sliceBound (.int k1 (l : Int)) h .sliceB).run P w = .ok l w := run_sliceBound w k1 l h _ (by omega) (by omega)
   have e0 : cap - off - l = cap - (off + l) := by omega
   refine ⟨.slice (if cap - off = l then ad else ad.map (·.add (l * ob.sz))) (h - l) (cap - (off + l)), ?_, .ref k (off + l) (h - l) blk base cap ob.sz _ hl (by omega) hcm (fun hlt => ?_) (fun e => ?_)⟩
   ·unfold execOp
    rw [ho]
    simp only [Instr.sliceAt, hv, Option.map_none, Option.map_some, v1, v2, Sem.run_bind, run_underlying h3, Result.andThen_ok, Instr.slice, Instr.sliceBounds, if_true, Option.isSome_none, Bool.false_eq_true, if_false, s1, s2, hsz', Sem.run_pure, e0]
   ·obtain ⟨b, rfl, rfl⟩ := hb' (by omega)
    refine ⟨b, rfl, ?_⟩
    rw [if_neg (by omega)]
    simp only [Option.map_some, Addr.add_lit, Option.some.injEq, Addr.mk.injEq, true_and, and_true]
    rw [Nat.add_mul]; omega
   ·split at e
    ·have := h0 e; omega
    ·cases ad with
     | none => have := h0 rfl; omega
     | some _ => simp at e
theorem ok_callAll {σ : AS} {o : Oper} {f : FuncId} {avs bvs : List AV} {res : AV} (hen : Enters P o σ f avs) (hl : bvs.length = avs.length) (hrd : ∀ B G w a, R B G σ w a → ∀ i v, i < avs.length → Rv G (avs.getD i .any) v → Rv (G0 (fun b p => w.cell? ⟨b, p, none⟩)) (bvs.getD i .any) v) (hF : FnPure P f bvs res) (hs : res.scalar = true) : CoreOk P o σ (res, []) := by
 intro B G w a hr K Q hK
 obtain ⟨argv, hop, h1, h2⟩ := hen B G w a hr
 unfold Oper.wp
 rw [hop]
 have hc := hF (fun b p => w.cell? ⟨b, p, none⟩) w argv hr.heap.allOk (by omega) (fun i hi => hrd B G w a hr i _ (by omega) (h2 i (by omega)))
 refine Calls.mono hc fun e w' hl => ?_
 obtain ⟨v, S', rfl, hb, g1, g2, g3, g4⟩ := hl
 obtain ⟨r1, r2⟩ := hr.after (S' := G.S) hb (fun _ _ _ h => h) (fun b p u h => by
  have := hr.heap.st b p u h
  exact (hb.cell (World.block_lt_of_cell? _ _ this)).trans this) (fun _ _ _ h => .inl h)
 exact hK _ _ _ r1 r2 (g4.scalar hs)
theorem read_own {B : Base} {G : Gh} {σ : AS} {w : World} {a : Act} (hr : R B G σ w a) {k : Nat} {ob : AObj} (hk : lk σ.objs k = some ob) (hz : 0 < ob.sz) (hi : idsLL ob.xs = []) {v : Value} (hv : Rv G (.ref k 0 ob.xs.length) v) : Rv (G0 (fun b p => w.cell? ⟨b, p, none⟩)) (.sl ob.sz ob.xs) v := by
 have hsh : σ.shut1 (fun _ => true) (.ref k 0 ob.xs.length) = some (.sl ob.sz ob.xs) := by
  simp only [AS.shut1, hk]
  rw [List.drop_zero, List.take_of_length_le (Nat.le_refl _), if_pos ⟨trivial, hz, by omega, hi⟩]
 exact shut1_ok hr (T := fun b p => w.cell? ⟨b, p, none⟩) hr.heap.st (fun _ _ _ _ _ _ _ _ _ h => h) (L := fun _ => none) hv hsh
end
end Go.Proofs.YtllkogdgmmcfgaaGreatDoor
/- Ob1: Functions that return a slice of their own, as objects: slices.Clone, lit.order, lit.Clause; no condition. -/
namespace Go.Proofs.YtllkogdgmmcfgaaGreatDoor
set_option linter.unusedVariables false
set_option linter.unusedSimpArgs false
set_option linter.unusedSectionVars false
open Go.RowKit
set_option maxRecDepth 100000
def obI (xs : List Int) : AObj := ⟨3, 1, xs.map fun x => [.v (.int .i64 x)]⟩
theorem own_obj {S : Nat → Nat → Option Value} {w w' : World} {F : Foot} {v : Value} {xs : List Int} (hS : StOk S w) (ho : OwnL eInt F w' w.heap.size 3 v xs) (hb : Below w.heap.size w w') :
  ∃ (G' : Gh) (a' : Act), R (base0 S w) G' ⟨a'.tmps.size, [], [(0, obI xs)], [0]⟩ w' a' ∧ Rv G' (.ref 0 0 xs.length) v := by
 obtain ⟨g1, g2⟩ := OwnL.int_iff.1 ho
 obtain ⟨hl, hc⟩ := g1
 have hlt : ∀ b p u, S b p = some u → b < w.heap.size := fun b p u h => World.block_lt_of_cell? _ _ (hS.1 b p u h)
 have main : ∀ (blk : Option Nat) (cap : Nat), (∀ g, blk = some g → w.heap.size ≤ g) → Robj (⟨S, fun k => if k = 0 then some (blk, 0, cap, 1) else none⟩ : Gh) w' 0 (obI xs) →
   R (base0 S w) (⟨S, fun k => if k = 0 then some (blk, 0, cap, 1) else none⟩ : Gh) ⟨({ tmps := #[], defers := [] } : Act).tmps.size, [], [(0, obI xs)], [0]⟩ w' { tmps := #[], defers := [] } := fun blk cap hg hob => by
  have hlk : ∀ k o, lk [(0, obI xs)] k = some o → k = 0 ∧ o = obI xs := fun k o h => by
   simp only [lk] at h
   split at h
   ·rename_i e; cases h; exact ⟨e.symm, rfl⟩
   ·cases h
  have hloc : ∀ b x, (if (0 : Nat) = 0 then some (blk, 0, cap, 1) else none) = some (some b, x) → w.heap.size ≤ b := fun b x h => by
   rw [if_pos rfl] at h
   cases h
   exact hg _ rfl
  refine ⟨rfl, fun t av ht => (by cases ht), rfl, ⟨hb.os, hb.tape, hb.output, hb.size, fun b hlt' _ => hb.block b hlt', fun k o hk => ?_, fun k o hk b base cap' sz hl' => ?_, fun k k' o o' hk hk' b x y _ _ => ?_, fun b p u hs => (hb.cell (hlt b p u hs)).trans (hS.1 b p u hs), fun k o hk b x hl' p => ?_, fun b p u h => .inl h, fun b p u h => h, fun k l hk => (by cases hk), fun r hr => (by cases hr), ⟨List.nodup_nil, fun k l hk => (by cases hk), hS.2⟩⟩, fun k hk => ?_⟩
  ·obtain ⟨rfl, rfl⟩ := hlk k o hk; exact hob
  ·obtain ⟨rfl, rfl⟩ := hlk k o hk; exact .inl (hloc _ _ hl')
  ·obtain ⟨rfl, _⟩ := hlk k o hk; obtain ⟨rfl, _⟩ := hlk k' o' hk'; rfl
  ·obtain ⟨rfl, rfl⟩ := hlk k o hk
   have h1 := hloc _ _ hl'
   cases hs : S b p with
   | none => exact hs
   | some u => have := hlt b p u hs; omega
  ·show k ∈ [0]
   by_cases e : k = 0
   ·simp [e]
   ·exact absurd (if_neg e) hk
 have hrow : ∀ i, i < (obI xs).xs.length → ((obI xs).xs.getD i []).length = (obI xs).sz := fun i hi => by
  simp only [obI, List.length_map] at hi ⊢
  simp [List.getD, hi]
 rcases hc with ⟨rfl, h0⟩ | ⟨g, cap, cur, rfl, hbg, hgg, hnc, hcm, hcs, htake⟩
 ·obtain rfl : xs = [] := List.eq_nil_of_length_eq_zero h0
  refine ⟨_, _, main none 0 (fun g h => by cases h) (.of Nat.one_pos ⟨none, 0, 0, rfl, by simp [obI], by omega, hrow, rfl⟩), ?_⟩
  exact .ref 0 0 0 none 0 0 1 none rfl (by omega) (by omega) (fun h => by omega) (fun _ => rfl)
 ·have hcm' : cap ≤ 9223372036854775807 := by simp only [maxLen] at hcm; omega
  refine ⟨_, _, main (some g) cap (fun g' h => by cases h; exact hbg) (.of Nat.one_pos ⟨some g, 0, cap, rfl, by simp only [obI, List.length_map]; exact hnc, hcm', hrow, cur, hgg, by show 0 + cap * 1 ≤ cur.size; omega, fun i j hi hj => ?_⟩), ?_⟩
  ·simp only [obI, List.length_map] at hi
   have hj0 : j = 0 := by have : j < 1 := hj; omega
   subst hj0
   have e1 : 0 + (i * (obI xs).sz + 0) = i := by show 0 + (i * 1 + 0) = i; omega
   rw [e1]
   have e2 : cur.getD i undef = .int .i64 (xs.getD i 0) := by
    have h1 : (cur.toList.take (xs.length * 1))[i]? = (xs.map (Value.int .i64))[i]? := by rw [htake]
    rw [List.getElem?_take, if_pos (by omega)] at h1
    rw [Array.getD_eq_getD_getElem?, ← Array.getElem?_toList, h1]
    simp [List.getD, hi]
   rw [e2]
   have e3 : ((obI xs).xs.getD i []).getD 0 .any = .v (.int .i64 (xs.getD i 0)) := by simp [obI, List.getD, hi]
   rw [e3]
   exact ⟨rfl, .v _⟩
  ·exact .ref 0 0 xs.length (some g) 0 cap 1 (some ⟨g, 0, none⟩) rfl (by omega) hcm' (fun _ => ⟨g, rfl, by simp⟩) (fun h => by cases h)
theorem within1 (xs : List Int) : Within (.ref 0 0 xs.length) [(0, obI xs)] [0] := by
 refine ⟨fun k hk => by simpa [AV.ids] using hk, fun k ob hk => ?_⟩
 simp only [lk] at hk
 split at hk
 ·rename_i e; cases hk; subst e
  refine ⟨by simp, fun q hq => ?_⟩
  rw [show idsLL (obI xs).xs = [] from ids_ints xs] at hq; cases hq
 ·cases hk
theorem gives_obj {f : FuncId} {args : List AV} {xs : List Int} (h : ∀ (S : Nat → Nat → Option Value) (w : World) (vs : Array Value), StOk S w → vs.size = args.length → (∀ i, i < args.length → Rv (G0 S) (args.getD i .any) (vs.getD i undef)) → Calls Tryz.prog f vs w (GivesOwn w xs)) : FnObj Tryz.prog f args (.ref 0 0 xs.length) [(0, obI xs)] [0] :=
 ⟨within1 xs, fun S w vs hS hn hv => (h S w vs hS hn hv).mono fun e w' ⟨v, he, hown, hb⟩ => by
  obtain ⟨G', a', h1, h2⟩ := own_obj hS hown hb
  exact ⟨v, G', a', he, h1, h2⟩⟩
theorem clone_obj (xs : List Int) (h : okInts xs = true) : FnObj Tryz.prog 81 [aInts xs] (.ref 0 0 xs.length) [(0, obI xs)] [0] :=
 gives_obj fun S w vs hS hn hv => by
  obtain ⟨u, rfl, hu⟩ := args1 hn hv
  exact clone_c (ints_of hS hu (toInts_ints _) h)
end Go.Proofs.YtllkogdgmmcfgaaGreatDoor
/- Vc23: slices.Concat of two lists; no condition. -/
namespace Go.Proofs.YtllkogdgmmcfgaaGreatDoor
set_option linter.unusedVariables false
set_option linter.unusedSimpArgs false
set_option linter.unusedSectionVars false
open Go.RowKit
open Wlk
attribute [-simp] List.getD_eq_getElem?_getD
set_option maxRecDepth 100000
def intsA (L : List Int) : List (List AV) := L.map fun x => [AV.v (.int .i64 x)]
theorem spl_repI {α : Type} (pre ys : List α) (z : α) (m : Nat) (h : ys.length ≤ m) : spl (pre ++ List.replicate m z) pre.length ys = pre ++ ys ++ List.replicate (m - ys.length) z := by
 simp [spl, List.append_assoc]
def sz2I (a n k : Nat) : Nat := if k = 0 then 0 else if k = 1 then a else n
def catI (A B : List Int) (k : Nat) : List (List AV) :=
 if k = 0 then List.replicate (A.length + B.length) [.v (.int .i64 0)] else if k = 1 then intsA A ++ List.replicate B.length [.v (.int .i64 0)] else intsA (A ++ B)
theorem catI_len (A B : List Int) (k : Nat) : (catI A B k).length = A.length + B.length := by
 unfold catI intsA
 split
 ·simp
 ·split <;> simp
theorem catI_1 (A B : List Int) : spl (catI A B 0) 0 (A.map fun x => [AV.v (.int .i64 x)]) = catI A B 1 := by
 have := spl_repI [] (A.map fun x => [AV.v (.int .i64 x)]) [AV.v (.int .i64 0)] (A.length + B.length) (by simp)
 simp only [List.nil_append, List.length_nil, List.length_map, Nat.add_sub_cancel_left] at this
 exact this
theorem catI_2 (A B : List Int) : spl (catI A B 1) A.length (B.map fun x => [AV.v (.int .i64 x)]) = catI A B 2 := by
 have := spl_repI (A.map fun x => [AV.v (.int .i64 x)]) (B.map fun x => [AV.v (.int .i64 x)]) [AV.v (.int .i64 0)] B.length (by simp)
 simp only [List.length_map, Nat.sub_self, List.replicate_zero, List.append_nil] at this
 unfold catI intsA
 rw [if_neg (by decide), if_pos rfl, if_neg (by decide), if_neg (by decide), List.map_append]
 exact this
theorem catI_1' (A C : List Int) : (A.map fun x => [AV.v (.int .i64 x)]) ++ (catI A C 0).drop A.length = catI A C 1 := by
 have := catI_1 A C
 simpa [spl] using this
theorem catI_2' (A C : List Int) : (catI A C 1).take A.length ++ ((C.map fun x => [AV.v (.int .i64 x)]) ++ (catI A C 1).drop (A.length + C.length)) = catI A C 2 := by
 have := catI_2 A C
 simpa [spl] using this
theorem catI_ids (A C : List Int) (k : Nat) : idsLL (catI A C k) = [] := by
 unfold catI intsA
 split
 ·exact ids_rep _ _
 ·split
  ·rw [idsLL_append, idsLL_ints, ids_rep]; rfl
  ·exact idsLL_ints _
theorem post_objV {TT : TTab} {fn : Func} {res av : AV} {objs : List (Nat × AObj)} {e : Exit} {σ : AS} {rs : List ResultVar} (he : e = .normal ∨ e = .ret) (hr : fn.results.toList = rs) (h1 : retA TT σ rs = some av) (ρ : Nat → Nat) (h2 : res.ren ρ = av)
  (h3 : ∀ k ob, lk objs k = some ob → lk σ.objs (ρ k) = some ⟨ob.t, ob.sz, renLL ρ ob.xs⟩) (h4 : ∀ k ob k' ob', lk objs k = some ob → lk objs k' = some ob' → ρ k = ρ k' → k = k') : PostO TT fn res objs e σ := ⟨he, av, by rw [hr]; exact h1, ρ, h2, h3, h4⟩
theorem obj_freshI {P : Program} {f : FuncId} {args : List AV} {xs : List Int} (hF : FnObj P f args (.ref 0 0 xs.length) [(0, obI xs)] [0]) : FnFresh P f args (aInts xs) := by
 intro S w vs hS hn hv
 refine (hF.2 S w vs hS hn hv).mono fun e w' ⟨v, G', a', he, hr, hrv⟩ => ?_
 have hh := hr.heap
 refine ⟨v, he, ⟨hh.os, hh.tape, hh.output, hh.size, fun b hb => hh.old b hb (by simp [base0])⟩, ?_⟩
 have hlen : (obI xs).xs.length = xs.length := by simp [obI]
 have h5 := read_own hr (k := 0) (ob := obI xs) rfl Nat.one_pos (ids_ints xs) (by rw [hlen]; exact hrv)
 have e1 : (obI xs).sz = 1 := rfl
 have e2 : (obI xs).xs = xs.map fun x => [AV.v (.int .i64 x)] := rfl
 rw [e1, e2] at h5
 cases hrv with
 | ref _ _ _ blk base cap sz ad hl hle hm hb h0 =>
  cases h5 with
  | sl _ _ _ n c us hn' hc hm' h0' hz ha h1 h2 =>
   refine .sl 1 _ ad _ _ us hn' hc hm' h0' hz (fun hp => ?_) h1 (fun i j hi hj => ?_)
   ·obtain ⟨b, o, e3, e4⟩ := ha hp
    rw [List.length_map] at hp
    obtain ⟨b2, e5, e6⟩ := hb (by omega)
    rw [e3] at e6
    cases e6
    subst e5
    refine ⟨b, _, e3, fun i j hi hj => ?_⟩
    have hbn : ¬ b < w.heap.size := by
     rcases hh.own 0 (obI xs) rfl b _ _ _ hl with h | h
     ·have : w.heap.size ≤ b := h
      omega
     ·cases h
    show (if b < w.heap.size then none else _) = _
    rw [if_neg hbn]
    exact e4 i j hi hj
   ·refine (h2 i j hi hj).isV ?_
    rw [List.length_map] at hi
    obtain rfl : j = 0 := by omega
    simp [List.getD, hi, AV.isV]
theorem lk_one {o ob : AObj} {k : Nat} (h : lk [(0, o)] k = some ob) : k = 0 ∧ ob = o := by
 simp only [lk] at h
 split at h
 ·rename_i e
  cases h
  exact ⟨e.symm, rfl⟩
 ·cases h
theorem vconcat_obj (A C : List Int) (hs : A.length + C.length ≤ 4096) : FnObj Tryz.prog 92 [.sl 1 [[aInts A], [aInts C]]] (.ref 0 0 (A ++ C).length) [(0, obI (A ++ C))] [0] := by
 obtain ⟨n, hn⟩ : ∃ n, A.length + C.length = n := ⟨_, rfl⟩
 have w0 : IntKind.i64.wrap 0 = 0 := rfl
 have w1 : IntKind.i64.wrap (A.length : Int) = A.length := i64w (by omega) (by omega)
 have w2 : IntKind.i64.wrap ((A.length : Int) + C.length) = n := by rw [i64w (by omega) (by omega)]; omega
 have w3 : IntKind.i64.wrap (n : Int) = n := i64w (by omega) (by omega)
 have n1 : ¬ (A.length : Int) < 0 := by omega
 have n2 : ¬ (n : Int) < 0 := by omega
 refine fn_obj TT_ok Tryz.func92 (c := _) rfl (by simp [Tryz.ntmps92]) (within1 _) (fun B hI0 hro => ?_)
 rw [Tryz.ntmps92]
 simp only [enumA]
 refine amGo PT201_ok (h := ?_)
 refine s_loop (J := fun i : {k : Nat // k ≤ 2} => ⟨36, [(0, .sl 1 [[aInts A], [aInts C]]), (2, .v (.slice none 0 0)), (3, .v (.int .i64 (sz2I A.length n i.1 : Nat))), (9, .sl 1 [[aInts A], [aInts C]]), (10, .v (.int .i64 2)), (11, .v (.int .i64 (i.1 : Int)))], [], []⟩) (μ := fun i => 2 - i.1) ⟨0, by omega⟩ ?_ (fun ⟨k, hk⟩ => ?_)
 ·(refine weak_id rfl ?_ ?_ <;> ((try simp only [List.mem_cons, List.not_mem_nil, or_false, forall_eq_or_imp, forall_eq]); (try simp (disch := omega) [i64w, *])))
  all_goals rfl
 refine amGo PT201_ok (h := ?_)
 (focus ((with_reducible refine sp_cond (b := ?_) ?_ (fun hc => ?_) (fun hc => ?_)); rotate_left; (focus (first | rfl | (simp [lk, AS.ev]; rfl))); all_goals (try simp at hc)))
 ·rcases (by omega : k = 0 ∨ k = 1) with rfl | rfl
  ·have e0 : sz2I A.length n 0 = 0 := rfl
   have e1 : sz2I A.length n 1 = A.length := rfl
   refine amGo PT201_ok (h := ?_)
   refine k_lp (⟨1, by omega⟩ : {k : Nat // k ≤ 2}) (by dsimp only; omega) ?_
   (refine weak_id rfl ?_ ?_ <;> ((try simp only [List.mem_cons, List.not_mem_nil, or_false, forall_eq_or_imp, forall_eq]); (try simp (disch := omega) [i64w, *])))
  ·have e1 : sz2I A.length n 1 = A.length := rfl
   have e2 : sz2I A.length n 2 = n := rfl
   refine amGo PT201_ok (h := ?_)
   refine k_lp (⟨2, by omega⟩ : {k : Nat // k ≤ 2}) (by dsimp only; omega) ?_
   (refine weak_id rfl ?_ ?_ <;> ((try simp only [List.mem_cons, List.not_mem_nil, or_false, forall_eq_or_imp, forall_eq]); (try simp (disch := omega) [i64w, *])))
 ·obtain rfl : k = 2 := by omega
  have e2 : sz2I A.length n 2 = n := rfl
  rw [e2]
  clear hc
  refine amGo PT201_ok (h := ?_)
  refine s_regionL ?_
  ((iterate 1 (((with_reducible refine spl_step TT_ok PT201_ok (id := 0) (σ' := ?_) ?_ ?_); rotate_left; (focus (simp [*]; rfl))))))
  refine spl_call TT_ok rfl rfl rfl (by kernel_rfl) Tryz.func114 rfl (avs := [.v (.slice none 0 0), .v (.int .i64 (n : Int))]) (cs := []) rfl rfl (by simp [Tryz.ntmps114]) fun B' hI' hro' => ?_
  rw [Tryz.ntmps114, Tryz.results114]
  simp only [enumA, List.append_nil]
  refine amGo PT201_ok (h := ?_)
  refine s_regionL ?_
  ((iterate 2 (((with_reducible refine spl_step TT_ok PT201_ok (id := 0) (σ' := ?_) ?_ ?_); rotate_left; (focus (simp [*]; rfl))))))
  (((with_reducible refine spl_stepX TT_ok PT201_ok (id := 0) (σ' := ?_) ?_ ?_); rotate_left; (focus (simp [stepX, coreX, cSliceNil, cClip, cStrB, cAppIn, cAppZ, cClear, cCap, isIntT, isStrT, isByteT, *]; rfl))))
  ((iterate 5 (((with_reducible refine spl_step TT_ok PT201_ok (id := 0) (σ' := ?_) ?_ ?_); rotate_left; (focus (simp [*]; rfl))))))
  refine spl_nil ?_
  by_cases h0 : n = 0
  ·subst h0
   obtain rfl : A = [] := List.eq_nil_of_length_eq_zero (by omega)
   obtain rfl : C = [] := List.eq_nil_of_length_eq_zero (by omega)
   refine amGo PT201_ok (h := ?_)
   refine ⟨.inr rfl, .v (.slice none 0 0), ?_, ?_⟩
   ·simp [retA, retL, ret1, lk]
   ((iterate 1 (((with_reducible refine spl_step TT_ok PT201_ok (id := 0) (σ' := ?_) ?_ ?_); rotate_left; (focus (simp [*]; rfl))))))
   refine spl_nil ?_
   refine k_seq ?_
   refine s_nil 6 7 3 1 (by simp [lk, AS.put, st]) (by simp [AS.put]) ?_
   simp only [AS.put, st]
   refine amGo PT201_ok (h := ?_)
   refine s_loop (J := fun i : {k : Nat // k ≤ 2} => ⟨36, [(6, .ref 7 0 0), (25, .sl 1 [[aInts []], [aInts []]]), (26, .v (.int .i64 2)), (27, .v (.int .i64 (i.1 : Int)))], [(7, ⟨3, 1, []⟩)], [7]⟩) (μ := fun i => 2 - i.1) ⟨0, by omega⟩ ?_ (fun ⟨k, hk⟩ => ?_)
   ·(refine weak_id rfl ?_ ?_ <;> ((try simp only [List.mem_cons, List.not_mem_nil, or_false, forall_eq_or_imp, forall_eq]); (try simp (disch := omega) [i64w, *])))
   refine amGo PT201_ok (h := ?_)
   (focus ((with_reducible refine sp_cond (b := ?_) ?_ (fun hc => ?_) (fun hc => ?_)); rotate_left; (focus (first | rfl | (simp [lk, AS.ev]; rfl))); all_goals (try simp at hc)))
   ·rcases (by omega : k = 0 ∨ k = 1) with rfl | rfl
    ·refine amGo PT201_ok (h := ?_)
     refine k_lp (⟨1, by omega⟩ : {k : Nat // k ≤ 2}) (by dsimp only; omega) ?_
     (refine weak_of (fun k => if k = 7 then 10 else k) ⟨rfl, ?_, ?_, ?_⟩ <;> ((try simp only [List.mem_cons, List.not_mem_nil, or_false, forall_eq_or_imp, forall_eq]); (try simp (disch := omega) [lk, AV.ids, idsL, idsLL, AV.ren, renL, renLL, i64w, *])))
    ·refine amGo PT201_ok (h := ?_)
     refine k_lp (⟨2, by omega⟩ : {k : Nat // k ≤ 2}) (by dsimp only; omega) ?_
     (refine weak_of (fun k => if k = 7 then 10 else k) ⟨rfl, ?_, ?_, ?_⟩ <;> ((try simp only [List.mem_cons, List.not_mem_nil, or_false, forall_eq_or_imp, forall_eq]); (try simp (disch := omega) [lk, AV.ids, idsL, idsLL, AV.ren, renL, renLL, i64w, *])))
   ·refine amGo PT201_ok (h := ?_)
    refine post_objV (av := .ref 7 0 0) (.inr rfl) (by rw [Tryz.results92]) ?_ (fun k => if k = 0 then 7 else k) rfl (fun k ob hk => ?_) (fun k ob k' ob' hk hk' e => ?_)
    ·simp [retA, retL, ret1, lk, ldA, AV.cell]
    ·obtain ⟨rfl, rfl⟩ := lk_one hk
     simp [lk, obI, renLL, renLL_pure]
    ·obtain ⟨rfl, rfl⟩ := lk_one hk
     obtain ⟨rfl, rfl⟩ := lk_one hk'
     rfl
  ·have hp : 0 < n := by omega
   have hp2 : (0 : Int) < n := by omega
   have c1 : n * 8 ≤ 140737488355328 := by omega
   have hl2 := catI_len A C
   rw [hn] at hl2
   have hc1 := catI_1 A C
   have hc2 := catI_2 A C
   refine amGo PT201_ok (h := ?_)
   refine s_regionL ?_
   ((iterate 2 (((with_reducible refine spl_step TT_ok PT201_ok (id := 0) (σ' := ?_) ?_ ?_); rotate_left; (focus (simp [*]; rfl))))))
   (((with_reducible refine spl_stepX TT_ok PT201_ok (id := 0) (σ' := ?_) ?_ ?_); rotate_left; (focus (simp [stepX, coreX, cSliceNil, cClip, cStrB, cAppIn, cAppZ, cClear, cCap, isIntT, isStrT, isByteT, *]; rfl))))
   (((with_reducible refine spl_stepX TT_ok PT201_ok (id := 0) (σ' := ?_) ?_ ?_); rotate_left; (focus (simp [stepX, coreX, cSliceNil, cClip, cStrB, cAppIn, cAppZ, cClear, cCap, isIntT, isStrT, isByteT, *]; rfl))))
   ((iterate 1 (((with_reducible refine spl_step TT_ok PT201_ok (id := 0) (σ' := ?_) ?_ ?_); rotate_left; (focus (simp [*]; rfl))))))
   (((with_reducible refine spl_stepX TT_ok PT201_ok (id := 7) (σ' := ?_) ?_ ?_); rotate_left; (focus (simp [stepX, coreX, cSliceNil, cClip, cStrB, cAppIn, cAppZ, cClear, cCap, isIntT, isStrT, isByteT, *]; rfl))))
   ((iterate 4 (((with_reducible refine spl_step TT_ok PT201_ok (id := 0) (σ' := ?_) ?_ ?_); rotate_left; (focus (simp [*]; rfl))))))
   refine spl_nil ?_
   refine amGo PT201_ok (h := ?_)
   refine ⟨.inr rfl, .ref 7 0 0, ?_, ?_⟩
   ·simp [retA, retL, ret1, lk]
   ((iterate 1 (((with_reducible refine spl_step TT_ok PT201_ok (id := 0) (σ' := ?_) ?_ ?_); rotate_left; (focus (simp [*]; rfl))))))
   refine spl_nil ?_
   refine k_seq ?_
   refine amGo PT201_ok (h := ?_)
   refine s_loop (J := fun i : {k : Nat // k ≤ 2} => ⟨36, [(6, .ref 7 0 (sz2I A.length n i.1)), (25, .sl 1 [[aInts A], [aInts C]]), (26, .v (.int .i64 2)), (27, .v (.int .i64 (i.1 : Int)))], [(7, ⟨3, 1, catI A C i.1⟩)], [7]⟩) (μ := fun i => 2 - i.1) ⟨0, by omega⟩ ?_ (fun ⟨k, hk⟩ => ?_)
   ·(refine weak_id rfl ?_ ?_ <;> ((try simp only [List.mem_cons, List.not_mem_nil, or_false, forall_eq_or_imp, forall_eq]); (try simp (disch := omega) [i64w, *])))
    ·rfl
    ·unfold catI
     rw [if_pos rfl, hn]
     exact ⟨rfl, fun q hq => by rw [ids_rep] at hq; cases hq⟩
   have h0' : ¬ 0 = n := by omega
   refine amGo PT201_ok (h := ?_)
   (focus ((with_reducible refine sp_cond (b := ?_) ?_ (fun hc => ?_) (fun hc => ?_)); rotate_left; (focus (first | rfl | (simp [lk, AS.ev]; rfl))); all_goals (try simp at hc)))
   ·rcases (by omega : k = 0 ∨ k = 1) with rfl | rfl
    ·have e0 : sz2I A.length n 0 = 0 := rfl
     have e1 : sz2I A.length n 1 = A.length := rfl
     have g1 : A.length ≤ n := by omega
     refine amGo PT201_ok (h := ?_)
     refine s_regionL ?_
     ((iterate 2 (((with_reducible refine spl_step TT_ok PT201_ok (id := 0) (σ' := ?_) ?_ ?_); rotate_left; (focus (simp [*]; rfl))))))
     (((with_reducible refine spl_coreX TT_ok (id := 0) (s := ?_) rfl rfl ?_ ?_); rotate_left; (focus (simp [stepX, coreX, cSliceNil, cClip, cStrB, cAppIn, cAppZ, cClear, cCap, isIntT, isStrT, isByteT, *]; rfl))))
     (refine spl_eq (τ := ?_) ?_ ?_; rotate_left; (focus ((try simp only [AS.frz, List.map_cons, List.map_nil]); (try simp [frzV, frzO, frzC, List.filter]); rfl)))
     ((iterate 1 (((with_reducible refine spl_step TT_ok PT201_ok (id := 0) (σ' := ?_) ?_ ?_); rotate_left; (focus (simp [*]; rfl))))))
     refine spl_nil ?_
     refine amGo PT201_ok (h := ?_)
     refine k_lp (⟨1, by omega⟩ : {k : Nat // k ≤ 2}) (by dsimp only; omega) ?_
     (refine weak_id rfl ?_ ?_ <;> ((try simp only [List.mem_cons, List.not_mem_nil, or_false, forall_eq_or_imp, forall_eq]); (try simp (disch := omega) [i64w, *])))
     exact ⟨catI_1' A C, fun q hq => by rw [catI_ids] at hq; cases hq⟩
    ·have e1 : sz2I A.length n 1 = A.length := rfl
     have e2 : sz2I A.length n 2 = n := rfl
     have g1 : A.length ≤ n := by omega
     refine amGo PT201_ok (h := ?_)
     refine s_regionL ?_
     ((iterate 2 (((with_reducible refine spl_step TT_ok PT201_ok (id := 0) (σ' := ?_) ?_ ?_); rotate_left; (focus (simp [*]; rfl))))))
     (((with_reducible refine spl_coreX TT_ok (id := 0) (s := ?_) rfl rfl ?_ ?_); rotate_left; (focus (simp [stepX, coreX, cSliceNil, cClip, cStrB, cAppIn, cAppZ, cClear, cCap, isIntT, isStrT, isByteT, *]; rfl))))
     (refine spl_eq (τ := ?_) ?_ ?_; rotate_left; (focus ((try simp only [AS.frz, List.map_cons, List.map_nil]); (try simp [frzV, frzO, frzC, List.filter]); rfl)))
     ((iterate 1 (((with_reducible refine spl_step TT_ok PT201_ok (id := 0) (σ' := ?_) ?_ ?_); rotate_left; (focus (simp [*]; rfl))))))
     refine spl_nil ?_
     refine amGo PT201_ok (h := ?_)
     refine k_lp (⟨2, by omega⟩ : {k : Nat // k ≤ 2}) (by dsimp only; omega) ?_
     (refine weak_id rfl ?_ ?_ <;> ((try simp only [List.mem_cons, List.not_mem_nil, or_false, forall_eq_or_imp, forall_eq]); (try simp (disch := omega) [i64w, *])))
     have h2 := catI_2' A C
     rw [hn] at h2
     exact ⟨h2, fun q hq => by rw [catI_ids] at hq; cases hq⟩
   ·obtain rfl : k = 2 := by omega
    have e3 : sz2I A.length n 2 = n := rfl
    have e4 : catI A C 2 = (A ++ C).map fun x => [AV.v (.int .i64 x)] := rfl
    have e5 : ((A ++ C).map fun x => [AV.v (.int .i64 x)]).take n = (A ++ C).map fun x => [AV.v (.int .i64 x)] := List.take_of_length_le (by simp; omega)
    rw [e3, e4]
    refine amGo PT201_ok (h := ?_)
    rw [← List.map_append] at *
    refine post_objV (av := .ref 7 0 n) (.inr rfl) (by rw [Tryz.results92]) ?_ (fun k => if k = 0 then 7 else k) (by simp [AV.ren, hn]) (fun k ob hk => ?_) (fun k ob k' ob' hk hk' e => ?_)
    ·simp [retA, retL, ret1, lk, ldA, AV.cell]
    ·obtain ⟨rfl, rfl⟩ := lk_one hk
     simp [lk, obI, renLL_pure]
    ·obtain ⟨rfl, rfl⟩ := lk_one hk
     obtain ⟨rfl, rfl⟩ := lk_one hk'
     rfl
theorem vconcat_f (A C : List Int) (hs : A.length + C.length ≤ 4096) : FnFresh Tryz.prog 92 [.sl 1 [[aInts A], [aInts C]]] (aInts (A ++ C)) := obj_freshI (vconcat_obj A C hs)
end Go.Proofs.YtllkogdgmmcfgaaGreatDoor
/- Vm23: The table with literal and Concat; no condition. -/
namespace Go.Proofs.YtllkogdgmmcfgaaGreatDoor
set_option linter.unusedVariables false
set_option linter.unusedSimpArgs false
set_option linter.unusedSectionVars false
open Go.RowKit
set_option maxRecDepth 100000
theorem vconcat_p2 (L : List (List Int)) (h : L.length = 2) (hs : (L.getD 0 []).length + (L.getD 1 []).length ≤ 4096) : FnFresh Tryz.prog 92 [aRows L] (aInts (L.getD 0 [] ++ L.getD 1 [])) := by
 match L, h with
 | [A, C], _ => exact vconcat_f A C hs
@[simp] def g_concat : List AV → Option (AV × Bool)
 | [a0] => (match toRows a0 with | some L => if (okRows L && (decide (L.length = 2) && decide ((L.getD 0 []).length + (L.getD 1 []).length ≤ 4096))) = true then some (aInts (L.getD 0 [] ++ L.getD 1 []), true) else none | none => none)
 | _ => none
theorem e_concat : EntOk Tryz.prog 92 g_concat := ent_fresh (by kernel_rfl) fun args r fr h => by
 unfold g_concat at h
 split at h
 ·rename_i a0
  split at h
  ·rename_i L t0
   split at h
   ·rename_i hc
    simp only [Bool.and_eq_true] at hc
    obtain ⟨o0, hk⟩ := hc
    cases h
    exact FnFresh.cov (vconcat_p2 L (of_decide_eq_true hk.1) (of_decide_eq_true hk.2)) (.cons (cov_rows t0) .nil)
   ·cases h
  ·cases h
 ·cases h

def l202 : List (FuncId × (List AV → Option (AV × Bool))) :=
 (91, g_vLitI) :: (92, g_concat) :: l201
theorem l202_ok : ∀ p ∈ l202, EntOk Tryz.prog p.1 p.2 := ent_cons e_vLitI (ent_cons e_concat (l201_ok))
def PT202 : PTab := tab l202
theorem PT202_ok : PTok Tryz.prog PT202 := tab_ok l202_ok
@[simp] theorem PT202_vLitI : PT202 91 = g_vLitI := rfl
@[simp] theorem PT202_concat : PT202 92 = g_concat := rfl
@[simp] theorem PT202_old (f : FuncId) (h : decide (f ≠ 91 ∧ f ≠ 92) = true) : PT202 f = PT201 f := (fun h => Eq.trans (tab_old h.1) (tab_old h.2)) (of_decide_eq_true h)
end Go.Proofs.YtllkogdgmmcfgaaGreatDoor
/- Vf23: verify.fit; no condition. -/
namespace Go.Proofs.YtllkogdgmmcfgaaGreatDoor
set_option linter.unusedVariables false
set_option linter.unusedSimpArgs false
set_option linter.unusedSectionVars false
open Go.RowKit
open Wlk
attribute [-simp] List.getD_eq_getElem?_getD
set_option maxRecDepth 100000
theorem nds_ids (l : List Nd) : idsLL (l.map fun x => [AV.v (.int .i64 x.1), .v (.int .i64 x.2.1), aInts x.2.2]) = [] := by
 induction l with
 | nil => rfl
 | cons p r ih => simp [idsLL, idsL, AV.ids, ih]
@[simp ↓ high] theorem d_ids_aNdsV (ns : List Nd) : (aNds ns).ids = [] := by unfold aNds; rw [AV.ids]; exact nds_ids ns
@[simp ↓ high] theorem d_ids_aClsV (cl : List Cl) : (aCls cl).ids = [] := by unfold aCls; rw [AV.ids]; exact d_ids_aCls cl
@[simp ↓ high] theorem d_ren_aNdsV (ρ : Nat → Nat) (ns : List Nd) : (aNds ns).ren ρ = aNds ns := AV.ren_pure ρ _ (d_ids_aNdsV ns)
@[simp ↓ high] theorem d_ren_aClsV (ρ : Nat → Nat) (cl : List Cl) : (aCls cl).ren ρ = aCls cl := AV.ren_pure ρ _ (d_ids_aClsV cl)
@[simp ↓ high] theorem d_slA_rows (σ : AS) (xs : List (List Int)) (lo hi : Option Operand) : slA σ (aRows xs) 1 lo hi = (bndA σ xs.length lo hi).map fun p => (aRows ((xs.drop p.1).take (p.2 - p.1)), []) := by
 simp only [slA, aRows, List.length_map]
 cases bndA σ xs.length lo hi with
 | none => rfl
 | some p => simp [aRows, List.map_take, List.map_drop]
abbrev FitI (N : Int) (ns : List Nd) (R : List (List Int)) (is : List Int) : Type := {q : List (List Int) × List Int × Nat // q.2.2 ≤ q.2.1.length ∧ okRows q.1 = true ∧ checkT N q.1 = 0 ∧ okInts q.2.1 = true ∧ Hid (idxB ns (q.2.1.take q.2.2) = true) ∧ q.2.2 ≤ 400 ∧ Hid (fit1 ns q.2.2 q.1 (q.2.1.take q.2.2) = fit1 ns is.length R is)}
theorem ints_getO {l : List Int} {k : Nat} (h : k < l.length) : (l.map fun x => [AV.v (.int .i64 x)]).getD k [] = [.v (.int .i64 (l.getD k 0))] := by
 simp [List.getD, h]
theorem idx_take {ns : List Nd} {D : List Int} {n k : Nat} (h : idxB ns (D.take n) = true) (hk : k < n) (hn : n ≤ D.length) : 0 ≤ D.getD k 0 ∧ D.getD k 0 < (ns.length : Int) := by
 refine idxB_mem h ?_
 have e : D.getD k 0 = (D.take n)[k]'(by rw [List.length_take]; omega) := by
  rw [List.getElem_take, List.getD_eq_getElem?_getD, List.getElem?_eq_getElem (by omega)]; rfl
 rw [e]
 exact List.getElem_mem _
theorem lit_form {x : Nd} {N i : Int} (h : formB x N i = true) : x.1 = 2 → litOk x.2.1 N = true := fun e => by
 unfold formB at h
 rw [Bool.and_eq_true] at h
 have h2 := h.2
 rw [if_neg (by omega), if_pos e, Bool.and_eq_true] at h2
 exact h2.1
theorem take_getD {D : List Int} {n k : Nat} (hk : k < n) (hn : n ≤ D.length) : (D.take n).getD k 0 = D.getD k 0 := by
 rw [List.getD_eq_getElem?_getD, List.getD_eq_getElem?_getD, List.getElem?_take, if_pos hk]
theorem cut_take {D : List Int} {n k : Nat} (hk : k < n) (hn : n ≤ D.length) : (D.take k ++ D.drop (k + 1)).take (n - 1) = cutI (D.take n) k := by
 unfold cutI
 rw [List.take_append, List.length_take, List.take_take, List.take_take, List.drop_take, Nat.min_eq_left (by omega : k ≤ D.length), Nat.min_eq_left (by omega : k ≤ n), Nat.min_eq_right (by omega : k ≤ n - 1)]
 congr 2
 omega
theorem fit1_step {ns : List Nd} {D : List Int} {n k : Nat} {R1 R2 : List (List Int)} (hk : k < n) (hn : n ≤ D.length) (h : ∀ j, j < k → useB ns R1 (D.getD j 0) = false) (hu : useB ns R1 (D.getD k 0) = true) (hg : gvV R1 (litN ns (D.getD k 0)) = R2) : fit1 ns (n - 1) R2 ((D.take k ++ D.drop (k + 1)).take (n - 1)) = fit1 ns n R1 (D.take n) := by
 have hl : (D.take n).length = n := by rw [List.length_take]; omega
 have hf : (D.take n).findIdx? (useB ns R1) = some k := by
  rw [List.findIdx?_eq_some_iff_getElem]
  refine ⟨by omega, ?_, fun j hj => ?_⟩
  ·have := take_getD (D := D) hk hn
   rw [List.getD_eq_getElem?_getD, List.getElem?_eq_getElem (by omega)] at this
   simp only [Option.getD_some] at this
   rw [this]; exact hu
  ·have := take_getD (D := D) (show j < n by omega) hn
   rw [List.getD_eq_getElem?_getD, List.getElem?_eq_getElem (by omega)] at this
   simp only [Option.getD_some] at this
   rw [this, h j hj]; decide
 obtain ⟨m, rfl⟩ : ∃ m, n = m + 1 := ⟨n - 1, by omega⟩
 rw [cut_take hk hn]
 conv => rhs; rw [fit1]
 rw [hf]
 simp only
 rw [take_getD hk hn, hg]
 rfl
theorem idx_cut {ns : List Nd} {D : List Int} {n k : Nat} (h : idxB ns (D.take n) = true) (hk : k < n) (hn : n ≤ D.length) : idxB ns ((D.take k ++ D.drop (k + 1)).take (n - 1)) = true := by
 rw [cut_take hk hn]
 refine List.all_eq_true.2 fun x hx => List.all_eq_true.1 h x ?_
 unfold cutI at hx
 rcases List.mem_append.1 hx with hx | hx
 ·exact List.mem_of_mem_take hx
 ·exact List.mem_of_mem_drop hx
theorem okInts_cut {D : List Int} {k : Nat} (hk : k < D.length) (h : okInts D = true) : okInts (D.take k ++ D.drop (k + 1)) = true := by
 unfold okInts at h ⊢
 rw [Bool.and_eq_true, decide_eq_true_eq, List.all_eq_true] at h ⊢
 refine ⟨fun x hx => h.1 x ?_, ?_⟩
 ·rcases List.mem_append.1 hx with hx | hx
  ·exact List.mem_of_mem_take hx
  ·exact List.mem_of_mem_drop hx
 ·rw [List.length_append, List.length_take, List.length_drop]; omega
theorem del_take {D : List Int} {k M : Nat} (hn : k + 1 + M ≤ D.length) : ((spl D k ((D.drop (k + 1)).take M)).take (k + M) ++ 0 :: (spl D k ((D.drop (k + 1)).take M)).drop (k + M + 1)).take (k + M) = (D.take k ++ D.drop (k + 1)).take (k + M) := by
 have hl : (spl D k ((D.drop (k + 1)).take M)).length = D.length := by simp [spl]; omega
 rw [List.take_append_of_le_length (by rw [List.length_take]; omega), List.take_take, Nat.min_self]
 unfold spl
 have h1 : (D.take k ++ (D.drop (k + 1)).take M).length = k + M := by simp; omega
 rw [List.take_append_of_le_length (by omega), List.take_of_length_le (by omega), List.take_append, List.length_take, Nat.min_eq_left (by omega : k ≤ D.length), List.take_take, Nat.min_eq_right (by omega : k ≤ k + M), show k + M - k = M by omega]
theorem del_ok {D : List Int} {k M : Nat} (hn : k + 1 + M ≤ D.length) (h : okInts D = true) : okInts ((spl D k ((D.drop (k + 1)).take M)).take (k + M) ++ 0 :: (spl D k ((D.drop (k + 1)).take M)).drop (k + M + 1)) = true := by
 have hl : (spl D k ((D.drop (k + 1)).take M)).length = D.length := by simp [spl]; omega
 unfold okInts at h ⊢
 rw [Bool.and_eq_true, decide_eq_true_eq, List.all_eq_true] at h ⊢
 have hs : ∀ x ∈ spl D k ((D.drop (k + 1)).take M), okI x = true := fun x hx => by
  unfold spl at hx
  rcases List.mem_append.1 hx with hx | hx
  ·rcases List.mem_append.1 hx with hx | hx
   ·exact h.1 x (List.mem_of_mem_take hx)
   ·exact h.1 x (List.mem_of_mem_drop (List.mem_of_mem_take hx))
  ·exact h.1 x (List.mem_of_mem_drop hx)
 refine ⟨fun x hx => ?_, ?_⟩
 ·rcases List.mem_append.1 hx with hx | hx
  ·exact hs x (List.mem_of_mem_take hx)
  ·rcases List.mem_cons.1 hx with rfl | hx
   ·rfl
   ·exact hs x (List.mem_of_mem_drop hx)
 ·rw [List.length_append, List.length_cons, List.length_take, List.length_drop]; omega
theorem fit1_stop {ns : List Nd} {D : List Int} {n : Nat} {R1 : List (List Int)} (hn : n ≤ D.length) (h : ∀ j, j < n → useB ns R1 (D.getD j 0) = false) : fit1 ns n R1 (D.take n) = (R1, D.take n) := by
 have hl : (D.take n).length = n := by rw [List.length_take]; omega
 cases n with
 | zero => rfl
 | succ m =>
  have hf : (D.take (m + 1)).findIdx? (useB ns R1) = none := by
   rw [List.findIdx?_eq_none_iff]
   intro x hx
   obtain ⟨j, hj, rfl⟩ := List.getElem_of_mem hx
   have hjm : j < m + 1 := by omega
   have := take_getD (D := D) hjm hn
   rw [List.getD_eq_getElem?_getD, List.getElem?_eq_getElem hj] at this
   simp only [Option.getD_some] at this
   rw [this]; exact h j hjm
  rw [fit1, hf]
theorem okInts_take {D : List Int} (h : okInts D = true) (k : Nat) : okInts (D.take k) = true := by
 unfold okInts at h ⊢
 rw [Bool.and_eq_true, decide_eq_true_eq, List.all_eq_true] at h ⊢
 exact ⟨fun x hx => h.1 x (List.mem_of_mem_take hx), by rw [List.length_take]; omega⟩
abbrev Fit2I (N : Int) (L : List (List Int)) (ns : List Nd) (cl : List Cl) (E : List Int) : Type := {q : Nat × BitVec 128 × List (List Int) // q.1 ≤ E.length ∧ q.2.2.length ≤ 4096 * q.1 ∧ okRows q.2.2 = true ∧ Hid (fit2 N L ns cl (E.drop q.1) q.2.1 q.2.2 = fit2 N L ns cl E 0#128 [])}
theorem drop_get {E : List Int} {j : Nat} (h : j < E.length) : E.drop j = E.getD j 0 :: E.drop (j + 1) := by
 rw [List.drop_eq_getElem_cons h]
 congr 1
 rw [List.getD_eq_getElem?_getD, List.getElem?_eq_getElem h]; rfl
theorem aSet_eq (s : BitVec 128) : aSet s = .agg [.v (.int .u64 ((lo s).toNat : Int)), .v (.int .u64 ((hi s).toNat : Int))] := rfl
@[simp ↓ high] theorem d_flat_setV (s : BitVec 128) : (aSet s).flat = true := rfl
@[simp ↓ high] theorem d_cells_setV (s : BitVec 128) : (aSet s).cells = [.v (.int .u64 ((lo s).toNat : Int)), .v (.int .u64 ((hi s).toNat : Int))] := rfl
@[simp ↓ high] theorem d_scalar_setV (s : BitVec 128) : (aSet s).scalar = true := rfl
@[simp ↓ high] theorem d_ids_setV (s : BitVec 128) : (aSet s).ids = [] := rfl
theorem setEq0 (s : BitVec 128) : (((lo s).toNat : Int) == 0 && ((hi s).toNat : Int) == 0) = decide (s = 0#128) := by
 rw [Bool.eq_iff_iff]
 simp only [Bool.and_eq_true, beq_iff_eq, decide_eq_true_eq]
 constructor
 ·rintro ⟨h1, h2⟩
  exact words_ext (BitVec.eq_of_toNat_eq (by rw [words0.1]; simp; omega)) (BitVec.eq_of_toNat_eq (by rw [words0.2]; simp; omega))
 ·rintro rfl
  rw [words0.1, words0.2]; exact ⟨rfl, rfl⟩
theorem okRows_appV {A X : List (List Int)} (h1 : okRows A = true) (h2 : okRows X = true) (h : A.length + X.length ≤ 5000000) : okRows (A ++ X) = true := by
 unfold okRows at h1 h2 ⊢
 rw [Bool.and_eq_true] at h1 h2 ⊢
 refine ⟨by rw [List.all_append, h1.1, h2.1]; rfl, by rw [List.length_append]; exact decide_eq_true (by omega)⟩
theorem okRows_dropV {X : List (List Int)} (h : okRows X = true) : okRows (X.drop 1) = true := by
 unfold okRows at h ⊢
 rw [Bool.and_eq_true, decide_eq_true_eq, List.all_eq_true] at h ⊢
 exact ⟨fun c hc => h.1 c (List.mem_of_mem_drop hc), by rw [List.length_drop]; omega⟩
theorem read_ownTh {B : Base} {G : Gh} {σ : AS} {w : World} {a : Act} (hr : R B G σ w a) {N : Int} {A : List (List Int)} (hk : lk σ.objs 50 = some ⟨30, 1, A.map fun xs => [aInts xs]⟩) {v : Value} (hv : Rv G (.agg [.v (.int .i64 N), .ref 50 0 A.length]) v) : Rv (G0 (fun b p => w.cell? ⟨b, p, none⟩)) (aTh N A) v := by
 obtain ⟨arr, rfl, hl, h1, h2⟩ := hv.agg_inv
 refine Rv.agg' hl h1 fun i hi => ?_
 match i, hi with
 | 0, _ => exact (h2 0 (by simp)).isV (by rfl)
 | 1, _ =>
  have h3 := h2 1 (by simp)
  have h4 := read_own hr hk Nat.one_pos (idsLL_rows A) (v := _) (by rw [List.length_map]; exact h3)
  exact h4
set_option maxHeartbeats 16000000 in
theorem fit_p (N : Int) (L : List (List Int)) (ns : List Nd) (cl : List Cl) (R : List (List Int)) (is : List Int) (hp : Prf N L ns cl) (hR : okRows R = true) (hz : checkT N R = 0) (his : okInts is = true) (hin : idxB ns is = true) (hlen : is.length ≤ 400) : FnPure Tryz.prog 47 [aPrf N L ns cl, aTh N R, aInts is] (.v (.bool (fitV N L ns cl R is))) := by
 unfold aTh aPrf
 refine fn_sp TT_ok Tryz.func47 (c := _) rfl (by simp [Tryz.ntmps47]) (fun B hI0 hro => ?_)
 rw [Tryz.ntmps47]
 simp only [enumA]
 refine amStr (h := ?_)
 refine amReg PT202_ok (h := ?_)
 refine amStr (h := ?_)
 refine s_regionL ?_
 ((iterate 1 (((with_reducible refine spl_step TT_ok PT202_ok (id := 0) (σ' := ?_) ?_ ?_); rotate_left; (focus (simp [*]; rfl))))))
 refine spl_obj (clone_obj is his) 300 (by simp) rfl rfl (enters_ok (avs := [aInts is]) (cs := []) rfl (by kernel_rfl) rfl rfl) (by simp [idsL]) (fun c h => by cases h) ?_
 simp only [shO, obI, AV.ren, Nat.zero_add, List.map_cons, List.map_nil, List.cons_append, List.nil_append]
 (refine spl_eq (τ := ?_) ?_ ?_; rotate_left; (focus ((try simp only [AS.frz, List.map_cons, List.map_nil]); (try simp [frzV, frzO, frzC, List.filter]); rfl)))
 ((iterate 1 (((with_reducible refine spl_step TT_ok PT202_ok (id := 0) (σ' := ?_) ?_ ?_); rotate_left; (focus (simp [*]; rfl))))))
 refine spl_nil ?_
 refine amStr (h := ?_)
 refine amReg PT202_ok (h := ?_)
 refine amStr (h := ?_)
 refine s_loop (J := fun i : FitI N ns R is => ⟨112, [(2, .ref 300 0 i.1.2.2), (3, .ptr 0 0 0), (4, .ptr 1 0 0), (6, .v (.bool false)), (7, .clo 82 [.ptr 0 0 0, .ptr 1 0 0])], [(300, ⟨3, 1, i.1.2.1.map fun x => [.v (.int .i64 x)]⟩), (0, ⟨58, 1, [[.pt [.v (.int .i64 N), aRows L, .v (.int .i64 N), aNds ns, aCls cl]]]⟩), (1, ⟨24, 2, [[.v (.int .i64 N), aRows i.1.1]]⟩)], [300, 1, 0]⟩) (μ := fun i => i.1.2.2) ⟨(R, is, is.length), Nat.le_refl _, hR, hz, his, Lib.hid (by rw [List.take_length]; exact hin), hlen, Lib.hid (by rw [List.take_length])⟩ ?_ (fun ⟨⟨R1, D, n⟩, hnD, hR1, hz1, hD, HI, hn4, HF⟩ => ?_)
 ·(refine weak_id rfl ?_ ?_ <;> ((try simp only [List.mem_cons, List.not_mem_nil, or_false, forall_eq_or_imp, forall_eq]); (try simp (disch := omega) [i64w, *])))
 dsimp only at hnD hR1 hz1 hD HI hn4 HF
 dsimp only
 have hDl := okInts_len hD
 have hNo := hp.hN
 refine amStr (h := ?_)
 refine s_regionL ?_
 ((iterate 2 (((with_reducible refine spl_step TT_ok PT202_ok (id := 0) (σ' := ?_) ?_ ?_); rotate_left; (focus (simp [*]; rfl))))))
 refine spl_call TT_ok rfl rfl rfl (by kernel_rfl) Tryz.func84 rfl (avs := [.ref 300 0 n, .clo 82 [.ptr 0 0 0, .ptr 1 0 0]]) (cs := []) rfl rfl (by simp [Tryz.ntmps84]) fun B1 hI1 hro1 => ?_
 rw [Tryz.ntmps84, Tryz.results84]
 simp only [enumA, List.append_nil]
 refine amStr (h := ?_)
 refine amReg PT202_ok (h := ?_)
 refine amStr (h := ?_)
 refine amReg PT202_ok (h := ?_)
 refine amStr (h := ?_)
 refine s_loopI hI1 (J := fun i : {k : Nat // k ≤ n ∧ Hid (∀ j, j < k → useB ns R1 (D.getD j 0) = false)} => ⟨19, [(0, .ref 300 0 n), (1, .clo 82 [.ptr 0 0 0, .ptr 1 0 0]), (7, .v (.int .i64 (n : Int))), (8, .v (.int .i64 (i.1 : Int)))], [(300, ⟨3, 1, D.map fun x => [.v (.int .i64 x)]⟩), (0, ⟨58, 1, [[.pt [.v (.int .i64 N), aRows L, .v (.int .i64 N), aNds ns, aCls cl]]]⟩), (1, ⟨24, 2, [[.v (.int .i64 N), aRows R1]]⟩)], [300, 1, 0]⟩) (μ := fun i => n - i.1) ⟨0, Nat.zero_le _, Lib.hid fun j hj => by omega⟩ ?_ (fun ⟨k, hk, HP⟩ => ?_)
 ·(refine weakI_of (fun q => q) ⟨rfl, ?_, ?_, ?_⟩ ?_ <;> ((try simp only [List.mem_cons, List.not_mem_nil, or_false, forall_eq_or_imp, forall_eq]); (try simp (disch := omega) [lk, AV.ids, idsL, idsLL, AV.ren, renL, renLL, i64w, *])))
 refine amStr (h := ?_)
 refine amReg PT202_ok (h := ?_)
 refine amStr (h := ?_)
 (focus ((with_reducible refine sp_cond (b := ?_) ?_ (fun hc => ?_) (fun hc => ?_)); rotate_left; (focus (first | rfl | (simp [lk, AS.ev]; rfl))); all_goals (try simp at hc)))
 ·have hkk := hc
  clear hc
  have hkD : k < D.length := by omega
  have ho := okI_iff.2 (okInts_at hD k)
  have hget := ints_getO hkD
  have hwk : IntKind.i64.wrap ((k : Int) + 1) = (k : Int) + 1 := i64w (by omega) (by omega)
  have hix := HI.out
  obtain ⟨y0, y1⟩ := idx_take hix hkk hnD
  obtain ⟨x, hx⟩ : ∃ x, D.getD k 0 = x := ⟨_, rfl⟩
  rw [hx] at ho hget y0 y1
  obtain ⟨m, rfl⟩ := Int.eq_ofNat_of_zero_le y0
  have hm : m < ns.length := by omega
  obtain ⟨o1, o2, o3, o4⟩ := okNs_at hp.hns hm
  clear y0 hix
  refine amStr (h := ?_)
  refine amReg PT202_ok (h := ?_)
  refine amStr (h := ?_)
  refine s_regionL ?_
  ((iterate 5 (((with_reducible refine spl_step TT_ok PT202_ok (id := 0) (σ' := ?_) ?_ ?_); rotate_left; (focus (simp [*]; rfl))))))
  refine spl_call TT_ok rfl rfl rfl (by kernel_rfl) Tryz.func82 rfl (avs := [.v (.int .i64 (m : Int))]) (cs := [.ptr 0 0 0, .ptr 1 0 0]) rfl rfl (by simp [Tryz.ntmps82]) fun B2 hI2 hro2 => ?_
  rw [Tryz.ntmps82, Tryz.results82]
  simp only [enumA, List.cons_append, List.nil_append]
  unfold aNds
  have hku : useB ns R1 (m : Int) = (decide ((ns.getD m nd0).1 = 2) && decide ([(ns.getD m nd0).2.1] ∈ R1)) := rfl
  have hli : litN ns (m : Int) = (ns.getD m nd0).2.1 := rfl
  have HLK := Lib.hid (lit_form (valid_form hp.hv hm))
  obtain ⟨K, hK⟩ : ∃ K, (ns.getD m nd0).1 = K := ⟨_, rfl⟩
  obtain ⟨l, hl⟩ : ∃ l, (ns.getD m nd0).2.1 = l := ⟨_, rfl⟩
  rw [hK, hl] at hku HLK
  rw [hl] at hli o2
  have HL := Lib.hid hli
  clear hli
  refine amStr (h := ?_)
  refine amReg PT202_ok (h := ?_)
  refine amStr (h := ?_)
  refine amReg PT202_ok (h := ?_)
  refine amStr (h := ?_)
  by_cases hk2 : K = 2
  ·subst hk2
   refine s_regionL ?_
   ((iterate 7 (((with_reducible refine spl_step TT_ok PT202_ok (id := 0) (σ' := ?_) ?_ ?_); rotate_left; (focus (simp [*]; rfl))))))
   (((with_reducible refine spl_step TT_ok PT202_ok (id := 320) (σ' := ?_) ?_ ?_); rotate_left; (focus (simp [*]; rfl))))
   refine spl_frz (fun q => q == 320) ?_
   (refine spl_eq (τ := ?_) ?_ ?_; rotate_left; (focus ((try simp only [AS.frz, List.map_cons, List.map_nil]); (try simp [frzV, frzO, frzC, List.filter]); rfl)))
   have ht1 : toInts (.sl 1 [[.v (.int .i64 l)]]) = some [l] := rfl
   have ho1 : okInts [l] = true := by unfold okInts; simp [o2]
   have hlk : litOk l N = true := HLK.out rfl
   ((iterate 3 (((with_reducible refine spl_step TT_ok PT202_ok (id := 0) (σ' := ?_) ?_ ?_); rotate_left; (focus (simp [*]; rfl))))))
   refine spl_nil ?_
   rw [decide_eq_true rfl, Bool.true_and] at hku
   cases hb : decide ([l] ∈ R1)
   ·rw [hb] at hku
    have hnx : ∀ j, j < k + 1 → useB ns R1 (D.getD j 0) = false := fun j hj => by
     by_cases e : j = k
     ·rw [e, hx]; exact hku
     ·exact HP.out j (by omega)
    have HN := Lib.hid hnx
    clear hnx hku
    refine amStr (h := ?_)
    refine amReg PT202_ok (h := ?_)
    refine amStr (h := ?_)
    refine ⟨.inr rfl, .v (.bool false), ?_, ?_⟩
    ·simp [retA, retL, ret1, lk]
    refine spl_nil ?_
    refine amStr (h := ?_)
    refine amReg PT202_ok (h := ?_)
    refine ki_lp (⟨k + 1, hkk, HN⟩ : {k : Nat // k ≤ n ∧ Hid (∀ j, j < k → useB ns R1 (D.getD j 0) = false)}) (by first | omega | (dsimp only; omega)) ?_
    (refine weakI_of (fun q => q) ⟨rfl, ?_, ?_, ?_⟩ ?_ <;> ((try simp only [List.mem_cons, List.not_mem_nil, or_false, forall_eq_or_imp, forall_eq]); (try simp (disch := omega) [lk, AV.ids, idsL, idsLL, AV.ren, renL, renLL, i64w, *])))
   ·rw [hb] at hku
    have hR2 : okRows (gvV R1 l) = true := okRows_check (gv_check hz1 l)
    have hz2 := gv_check hz1 l
    obtain ⟨R2, hR2e⟩ : ∃ R2, gvV R1 l = R2 := ⟨_, rfl⟩
    rw [hR2e] at hR2 hz2
    have hfe : aTh N R2 = .agg [.v (.int .i64 N), aRows R2] := rfl
    refine amStr (h := ?_)
    refine amReg PT202_ok (h := ?_)
    refine amStr (h := ?_)
    refine amReg PT202_ok (h := ?_)
    refine amStr (h := ?_)
    refine ⟨.inr rfl, .v (.bool true), ?_, ?_⟩
    ·simp [retA, retL, ret1, lk]
    refine spl_nil ?_
    refine amStr (h := ?_)
    refine amReg PT202_ok (h := ?_)
    refine amStr (h := ?_)
    refine ⟨.inr rfl, .v (.int .i64 (k : Int)), ?_, ?_⟩
    ·simp [retA, retL, ret1, lk]
    ((iterate 1 (((with_reducible refine spl_step TT_ok PT202_ok (id := 0) (σ' := ?_) ?_ ?_); rotate_left; (focus (simp [*]; rfl))))))
    refine spl_nil ?_
    have hk0 : ¬ ((k : Int) < 0) := by omega
    refine amStr (h := ?_)
    refine amReg PT202_ok (h := ?_)
    refine amStr (h := ?_)
    have hnext : fit1 ns (n - 1) R2 ((D.take k ++ D.drop (k + 1)).take (n - 1)) = fit1 ns is.length R is := by
     rw [← HF.out]
     exact fit1_step hkk hnD HP.out (by rw [hx]; exact hku) (by rw [hx, HL.out]; exact hR2e)
    have hidx2 : idxB ns ((D.take k ++ D.drop (k + 1)).take (n - 1)) = true := idx_cut HI.out hkk hnD
    have hoD2 : okInts (D.take k ++ D.drop (k + 1)) = true := okInts_cut hkD hD
    clear hfe hku hwk hget hb hR2e
    refine s_weak (τ := ⟨112, [(2, .ref 300 0 n), (3, .ptr 0 0 0), (4, .ptr 1 0 0), (6, .v (.bool false)), (7, .clo 82 [.ptr 0 0 0, .ptr 1 0 0]), (8, .v (.int .i64 (k : Int)))], [(300, ⟨3, 1, D.map fun x => [.v (.int .i64 x)]⟩), (0, ⟨58, 1, [[.pt [.v (.int .i64 N), aRows L, .v (.int .i64 N), aNds ns, aCls cl]]]⟩), (1, ⟨24, 2, [[.v (.int .i64 N), aRows R2]]⟩)], [300, 1, 0]⟩) ?_ ?_
    ·(refine weak_id rfl ?_ ?_ <;> ((try simp only [List.mem_cons, List.not_mem_nil, or_false, forall_eq_or_imp, forall_eq]); (try simp (disch := omega) [i64w, *])))
     all_goals rfl
    obtain ⟨M, rfl⟩ : ∃ M, n = k + 1 + M := ⟨n - (k + 1), by omega⟩
    have HX := Lib.hid (And.intro hnext (And.intro hidx2 hoD2))
    clear hnext hidx2 hoD2
    have hwk : IntKind.i64.wrap ((k : Int) + 1) = (k : Int) + 1 := i64w (by omega) (by omega)
    refine s_regionL ?_
    ((iterate 4 (((with_reducible refine spl_step TT_ok PT202_ok (id := 0) (σ' := ?_) ?_ ?_); rotate_left; (focus (simp [*]; rfl))))))
    refine spl_call TT_ok rfl rfl rfl (by kernel_rfl) Tryz.func85 rfl (avs := [.ref 300 0 (k + 1 + M), .v (.int .i64 (k : Int)), .v (.int .i64 ((k : Int) + 1))]) (cs := []) rfl rfl (by simp [Tryz.ntmps85]) fun B3 hI3 hro3 => ?_
    rw [Tryz.ntmps85, Tryz.results85]
    simp only [enumA, List.append_nil]
    refine amStr (h := ?_)
    refine amReg PT202_ok (h := ?_)
    refine amStr (h := ?_)
    refine s_regionL ?_
    ((iterate 5 (((with_reducible refine spl_step TT_ok PT202_ok (id := 0) (σ' := ?_) ?_ ?_); rotate_left; (focus (simp [*]; rfl))))))
    refine spl_op rfl rfl (ok_slice3 (TT_ok _ _ (rfl : TT 30 = some _)) rfl rfl rfl rfl rfl rfl rfl rfl (by omega) (by simp; omega) (by omega : k ≤ k + 1) (by omega : k + 1 ≤ k + 1 + M) (Nat.le_refl (k + 1 + M))) ?_
    refine spl_nil ?_
    have hke : ((k : Int) == (k : Int) + 1) = false := by rw [beq_eq_false_iff_ne]; omega
    have hki : (k : Int) ≤ (k : Int) + 1 + (M : Int) := by omega
    have hki2 : (k : Int) + 1 ≤ (k : Int) + 1 + (M : Int) := by omega
    have hki3 : k + 1 + M - (k + 1) = M := by omega
    refine amStr (h := ?_)
    refine amReg PT202_ok (h := ?_)
    refine amStr (h := ?_)
    refine amReg PT202_ok (h := ?_)
    refine amStr (h := ?_)
    have hmap1 : spl (D.map fun x => [AV.v (.int .i64 x)]) (0 + k) (((D.map fun x => [AV.v (.int .i64 x)]).drop (k + 1)).take M) = (spl D k ((D.drop (k + 1)).take M)).map fun x => [AV.v (.int .i64 x)] := by
     simp [spl, List.map_take, List.map_drop]
    obtain ⟨D1, hD1⟩ : ∃ D1, spl D k ((D.drop (k + 1)).take M) = D1 := ⟨_, rfl⟩
    rw [hD1] at hmap1
    refine s_drawX (es := ?es) (σ' := ?s1) (σ0 := ?s0) (o0 := ?o0) (e0 := ⟨some 26, .ref 300 0 (k + M), [(300, some ⟨3, 1, D1.map fun x => [.v (.int .i64 x)]⟩)], [22, 25], [300], none⟩) (q := 400) prog_mixed TT_ok PT202_ok ?he0 ?hrun ?hok ?kk
    case hrun =>
     (((with_reducible refine runX_cons (e := ?_) (σ1 := ?_) (es := ?_) ?_ ?_ ?_ ?_); rotate_left 4; (focus (simp [*]; exact Eq.refl _)); (focus (simp; exact Eq.refl _))))
     (((with_reducible refine runX_cons (e := ?_) (σ1 := ?_) (es := ?_) ?_ ?_ ?_ ?_); rotate_left 4; (focus (simp [*]; exact Eq.refl _)); (focus (simp; exact Eq.refl _))))
     (((with_reducible refine runX_cons (e := ?_) (σ1 := ?_) (es := ?_) ?_ ?_ ?_ ?_); rotate_left 4; (focus (simp [*]; exact Eq.refl _)); (focus (simp; exact Eq.refl _))))
     (((with_reducible refine runX_cons (e := ?_) (σ1 := ?_) (es := ?_) ?_ ?_ ?_ ?_); rotate_left 4; (focus (simp [*]; exact Eq.refl _)); (focus (simp; exact Eq.refl _))))
     (((with_reducible refine runX_cons (e := ?_) (σ1 := ?_) (es := ?_) ?_ ?_ ?_ ?_); rotate_left 4; (focus (simp [*]; exact Eq.refl _)); (focus (simp; exact Eq.refl _))))
     (((with_reducible refine runX_cons (e := ?_) (σ1 := ?_) (es := ?_) ?_ ?_ ?_ ?_); rotate_left 4; (focus (simp [*]; exact Eq.refl _)); (focus (simp; exact Eq.refl _))))
     refine runX_call (es := ?_) (σ1 := ?_) ?_ ?_
     rotate_left 2
     ·simp; exact Eq.refl _
     (((with_reducible refine runX_cons (e := ?_) (σ1 := ?_) (es := ?_) ?_ ?_ ?_ ?_); rotate_left 4; (focus (simp [*]; exact Eq.refl _)); (focus (simp; exact Eq.refl _))))
     exact runX_nil
     all_goals decide
    case he0 =>
     intro D0
     have hobj : (⟨3, 1, D1.map fun x => [AV.v (.int .i64 x)]⟩ : AObj) = { (⟨3, 1, D.map fun x => [AV.v (.int .i64 x)]⟩ : AObj) with xs := spl (D.map fun x => [AV.v (.int .i64 x)]) (0 + k) (((D.map fun x => [AV.v (.int .i64 x)]).drop (k + 1)).take M) } := by rw [hmap1]
     rw [hobj]
     exact eff_appIn TT_ok rfl rfl rfl (rfl : TT 30 = some _) rfl rfl rfl rfl rfl (by show 0 < (D.map fun x => [AV.v (.int .i64 x)]).length; rw [List.length_map]; omega) (by show 0 + k + M ≤ (D.map fun x => [AV.v (.int .i64 x)]).length; rw [List.length_map]; omega) (by show k + 1 + M ≤ (D.map fun x => [AV.v (.int .i64 x)]).length; rw [List.length_map]; omega)
    case hok => kernel_rfl
    case kk =>
     have hD1l : D1.length = D.length := by rw [← hD1]; simp [spl]; omega
     have hkm : (k : Int) + (M : Int) ≤ (k : Int) + 1 + (M : Int) := by omega
     have hk1D : k + 1 + M ≤ D1.length := by omega
     have hk2D : (k : Int) + 1 + (M : Int) ≤ (D1.length : Int) := by omega
     have hkd : k + 1 + M - (k + M) = 1 := by omega
     refine amStr (h := ?_)
     refine s_regionL ?_
     ((iterate 4 (((with_reducible refine spl_step TT_ok PT202_ok (id := 0) (σ' := ?_) ?_ ?_); rotate_left; (focus (simp [*]; rfl))))))
     refine spl_op rfl rfl (ok_slice_cap (l := k + M) (h := k + 1 + M) (TT_ok _ _ (rfl : TT 30 = some _)) rfl rfl rfl rfl rfl rfl rfl (by omega) (by show 0 + (k + 1 + M) ≤ (D1.map fun x => [AV.v (.int .i64 x)]).length; rw [List.length_map]; omega)) ?_
     (refine spl_eq (τ := ?_) ?_ ?_; rotate_left; (focus ((try simp only [AS.frz, List.map_cons, List.map_nil]); (try simp [frzV, frzO, frzC, List.filter]); rfl)))
     rw [hkd]
     have hk3D : k + M + 1 ≤ D.length := by omega
     have hmap2 : List.take (k + M) (List.map (fun x => [AV.v (.int .i64 x)]) D1) ++ [AV.v (.int .i64 0)] :: List.drop (k + M + 1) (List.map (fun x => [AV.v (.int .i64 x)]) D1) = (D1.take (k + M) ++ 0 :: D1.drop (k + M + 1)).map fun x => [AV.v (.int .i64 x)] := by
      rw [List.map_append, List.map_cons, List.map_take, List.map_drop]
     obtain ⟨D2, hD2⟩ : ∃ D2, D1.take (k + M) ++ 0 :: D1.drop (k + M + 1) = D2 := ⟨_, rfl⟩
     rw [hD2] at hmap2
     (((with_reducible refine spl_stepX TT_ok PT202_ok (id := 0) (σ' := ?_) ?_ ?_); rotate_left; (focus (simp [stepX, coreX, cSliceNil, cClip, cStrB, cAppIn, cAppZ, cClear, cCap, isIntT, isStrT, isByteT, *]; rfl))))
     refine spl_nil ?_
     obtain ⟨hnx, hdx, hox⟩ := HX.out
     rw [show k + 1 + M - 1 = k + M by omega] at hnx hdx
     have hD2l : D2.length = D.length := by rw [← hD2, List.length_append, List.length_cons, List.length_take, List.length_drop]; omega
     have hD2t : D2.take (k + M) = (D.take k ++ D.drop (k + 1)).take (k + M) := by rw [← hD2, ← hD1]; exact del_take hnD
     rw [← hD2t] at hnx hdx
     have hD2o : okInts D2 = true := by rw [← hD2, ← hD1]; exact del_ok hnD hD
     have HNX := Lib.hid hnx
     have HDX := Lib.hid hdx
     clear hmap1 hmap2 hD1 hD2 hnx hdx hox hD2t
     refine amStr (h := ?_)
     refine amReg PT202_ok (h := ?_)
     refine amStr (h := ?_)
     refine ⟨.inr rfl, .ref 300 0 (k + M), ?_, ?_⟩
     ·simp [retA, retL, ret1, lk]
     ((iterate 1 (((with_reducible refine spl_step TT_ok PT202_ok (id := 0) (σ' := ?_) ?_ ?_); rotate_left; (focus (simp [*]; rfl))))))
     refine spl_nil ?_
     refine amStr (h := ?_)
     refine k_lp (⟨(R2, D2, k + M), by show k + M ≤ D2.length; omega, hR2, hz2, hD2o, HDX, by show k + M ≤ 400; omega, HNX⟩ : FitI N ns R is) (by first | omega | (dsimp only; omega)) ?_
     (refine weak_id rfl ?_ ?_ <;> ((try simp only [List.mem_cons, List.not_mem_nil, or_false, forall_eq_or_imp, forall_eq]); (try simp (disch := omega) [i64w, *])))
     all_goals rfl
  ·have hkb : (K != 2) = true := by simpa using hk2
   have hku2 : useB ns R1 (m : Int) = false := by rw [hku, decide_eq_false hk2, Bool.false_and]
   have hnx : ∀ j, j < k + 1 → useB ns R1 (D.getD j 0) = false := fun j hj => by
    by_cases e : j = k
    ·rw [e, hx]; exact hku2
    ·exact HP.out j (by omega)
   have HN := Lib.hid hnx
   clear hnx hku hku2
   refine amReg PT202_ok (h := ?_)
   refine amStr (h := ?_)
   refine amReg PT202_ok (h := ?_)
   refine amStr (h := ?_)
   refine ⟨.inr rfl, .v (.bool false), ?_, ?_⟩
   ·simp [retA, retL, ret1, lk]
   refine spl_nil ?_
   refine amStr (h := ?_)
   refine amReg PT202_ok (h := ?_)
   refine ki_lp (⟨k + 1, hkk, HN⟩ : {k : Nat // k ≤ n ∧ Hid (∀ j, j < k → useB ns R1 (D.getD j 0) = false)}) (by first | omega | (dsimp only; omega)) ?_
   (refine weakI_of (fun q => q) ⟨rfl, ?_, ?_, ?_⟩ ?_ <;> ((try simp only [List.mem_cons, List.not_mem_nil, or_false, forall_eq_or_imp, forall_eq]); (try simp (disch := omega) [lk, AV.ids, idsL, idsLL, AV.ren, renL, renLL, i64w, *])))
 ·obtain rfl : k = n := by omega
  have hnone : fit1 ns is.length R is = (R1, D.take k) := by rw [← HF.out]; exact fit1_stop hnD HP.out
  clear hc
  refine amStr (h := ?_)
  refine amReg PT202_ok (h := ?_)
  refine amStr (h := ?_)
  refine ⟨.inr rfl, .v (.int .i64 (-1)), ?_, ?_⟩
  ·simp [retA, retL, ret1, lk]
  ((iterate 1 (((with_reducible refine spl_step TT_ok PT202_ok (id := 0) (σ' := ?_) ?_ ?_); rotate_left; (focus (simp [*]; rfl))))))
  refine spl_nil ?_
  refine amStr (h := ?_)
  refine amReg PT202_ok (h := ?_)
  refine amStr (h := ?_)
  have hEo := okInts_take hD k
  have hEi := HI.out
  have hEl : (D.take k).length ≤ 400 := by rw [List.length_take]; omega
  obtain ⟨E, hE⟩ : ∃ E, D.take k = E := ⟨_, rfl⟩
  have hmE : List.take k (List.map (fun x => [AV.v (.int .i64 x)]) D) = E.map fun x => [AV.v (.int .i64 x)] := by rw [← List.map_take, hE]
  rw [hE] at hnone hEo hEi hEl
  have HEI := Lib.hid hEi
  clear hEi hE
  have hlk : k ≤ (D.map fun x => [AV.v (.int .i64 x)]).length := by rw [List.length_map]; exact hnD
  refine s_frz (fun q => q == 300) ?_
  (refine s_eq (τ := ?_) ?_ ?_; rotate_left; (focus ((try simp only [AS.frz, List.map_cons, List.map_nil]); (try simp [frzV, frzO, frzC, List.filter]); rfl)))
  have hzE : (if k ≤ D.length ∧ idsLL (List.take k (List.map (fun x => [AV.v (.int .i64 x)]) D)) = [] then some (AV.sl 1 (List.take k (List.map (fun x => [AV.v (.int .i64 x)]) D))) else none).getD (AV.ref 300 0 k) = aInts E := by rw [hmE, if_pos ⟨hnD, ids_ints E⟩]; rfl
  rw [hzE]
  clear hzE hmE hlk
  refine s_weak (τ := ⟨112, [(2, aInts E), (3, .ptr 0 0 0), (4, .ptr 1 0 0), (6, .v (.bool false))], [(0, ⟨58, 1, [[.pt [.v (.int .i64 N), aRows L, .v (.int .i64 N), aNds ns, aCls cl]]]⟩), (1, ⟨24, 2, [[.v (.int .i64 N), aRows R1]]⟩)], [1, 0]⟩) ?_ ?_
  ·(refine weak_id rfl ?_ ?_ <;> ((try simp only [List.mem_cons, List.not_mem_nil, or_false, forall_eq_or_imp, forall_eq]); (try simp (disch := omega) [i64w, *])))
  have hEL := okInts_len hEo
  have hfv : fitV N L ns cl R is = (match fit2 N L ns cl E 0#128 [] with
   | none => false
   | some all => decide (checkT N all = 0) && decide (R1 = normL all)) := by unfold fitV; rw [hnone]; try rfl
  obtain ⟨z1, z2⟩ := words0
  refine amStr (h := ?_)
  refine amReg PT202_ok (h := ?_)
  refine amStr (h := ?_)
  refine amReg PT202_ok (h := ?_)
  refine amStr (h := ?_)
  refine amReg PT202_ok (h := ?_)
  refine amStr (h := ?_)
  refine s_cnil 8 0 1 50 30 1 rfl rfl (by simp) ?_ (by decide)
  (refine s_eq (τ := ?_) ?_ ?_; rotate_left; (focus ((try simp only [AS.frz, List.map_cons, List.map_nil]); (try simp [frzV, frzO, frzC, List.filter]); rfl)))
  refine s_loop (J := fun i : Fit2I N L ns cl E => ⟨112, [(3, .ptr 0 0 0), (4, .ptr 1 0 0), (6, .v (.bool false)), (9, .ptr 8 0 0), (10, .ptr 9 0 0), (36, aInts E), (37, .v (.int .i64 (E.length : Int))), (38, .v (.int .i64 (i.1.1 : Int)))], [(50, ⟨30, 1, i.1.2.2.map fun xs => [aInts xs]⟩), (0, ⟨58, 1, [[.pt [.v (.int .i64 N), aRows L, .v (.int .i64 N), aNds ns, aCls cl]]]⟩), (1, ⟨24, 2, [[.v (.int .i64 N), aRows R1]]⟩), (8, ⟨24, 2, [[.v (.int .i64 N), .ref 50 0 i.1.2.2.length]]⟩), (9, ⟨47, 2, [[.v (.int .u64 ((lo i.1.2.1).toNat : Int)), .v (.int .u64 ((hi i.1.2.1).toNat : Int))]]⟩)], [50, 9, 8, 1, 0]⟩) (μ := fun i => E.length - i.1.1) ⟨(0, 0#128, []), Nat.zero_le _, Nat.zero_le _, rfl, Lib.hid (by rw [List.drop_zero])⟩ ?_ (fun ⟨⟨j, sn, A⟩, hj, hAl, hAo, HA⟩ => ?_)
  ·(refine weak_id rfl ?_ ?_ <;> ((try simp only [List.mem_cons, List.not_mem_nil, or_false, forall_eq_or_imp, forall_eq]); (try simp (disch := omega) [i64w, *])))
  dsimp only at hj hAl hAo HA
  dsimp only
  have hNo := hp.hN
  refine amStr (h := ?_)
  refine amReg PT202_ok (h := ?_)
  refine amStr (h := ?_)
  (focus ((with_reducible refine sp_cond (b := ?_) ?_ (fun hc => ?_) (fun hc => ?_)); rotate_left; (focus (first | rfl | (simp [lk, AS.ev]; rfl))); all_goals (try simp at hc)))
  ·have hjj := hc
   clear hc
   have hget := ints_getO hjj
   have hoj := okI_iff.2 (okInts_at hEo j)
   have hdk := drop_get hjj
   have hwj : IntKind.i64.wrap ((j : Int) + 1) = (j : Int) + 1 := i64w (by omega) (by omega)
   obtain ⟨y0, y1⟩ := idxB_mem HEI.out (getD_memI hjj)
   have hfit := HA.out
   rw [hdk, fit2] at hfit
   obtain ⟨x, hx⟩ : ∃ x, E.getD j 0 = x := ⟨_, rfl⟩
   rw [hx] at hget hoj y0 y1 hfit
   obtain ⟨m, rfl⟩ := Int.eq_ofNat_of_zero_le y0
   have hm : m < ns.length := by omega
   have hmc : m < cl.length := by rw [hp.hlen]; exact hm
   have hmci : (m : Int) < (cl.length : Int) := by omega
   obtain ⟨o1, o2, o3, o4⟩ := okNs_at hp.hns hm
   obtain ⟨c1, c2⟩ := okCl_at hp.hcl (cl_mem hmc)
   have hcn : clN cl (m : Int) = cl.getD m ([], []) := rfl
   have hkn : kindN ns (m : Int) = (ns.getD m nd0).1 := rfl
   rw [hcn, hkn] at hfit
   obtain ⟨K, hK⟩ : ∃ K, (ns.getD m nd0).1 = K := ⟨_, rfl⟩
   obtain ⟨ts, hts⟩ : ∃ ts, (cl.getD m ([], [])).1 = ts := ⟨_, rfl⟩
   obtain ⟨cs, hcs⟩ : ∃ cs, (cl.getD m ([], [])).2 = cs := ⟨_, rfl⟩
   rw [hK] at hfit
   unfold rsV at hfit
   rw [hts, hcs] at hfit
   rw [hts] at c1
   rw [hcs] at c2
   clear y0 hcn hkn hdk
   have HFI := Lib.hid hfit
   clear hfit
   have hLo := hp.hL
   unfold aNds aCls
   cases hg : goodB N L.length ts cs
   ·have hA : resA N L ts cs = .tup [.agg [.v (.int .i64 0), .v (.slice none 0 0)], .v (.int .i64 1)] := by unfold resA; rw [if_neg (by rw [hg]; simp)]
    refine amStr (h := ?_)
    refine amReg PT202_ok (h := ?_)
    have hF : fitV N L ns cl R is = false := by
     have h := HFI.out
     rw [if_neg (by rw [hg]; decide)] at h
     rw [hfv, ← h]
    rw [hF]
    have htn : toRows (.v (.slice none 0 0)) = some [] := rfl
    have hv0 : varsOf 0 [] = 0#128 := by decide
    have h00 : okI 0 = true := rfl
    have h01 : okRows [] = true := rfl
    refine amStr (h := ?_)
    refine amDrs PT202_ok (h := ?_)
    refine amStr (h := ?_)
    refine amReg PT202_ok (h := ?_)
    refine amStr (h := ?_)
    refine amReg PT202_ok (h := ?_)
    refine amStr (h := ?_)
    refine amReg PT202_ok (h := ?_)
    refine amStr (h := ?_)
    (refine amRt Tryz.results47 (h := ?_); try simp [*])
   ·have hA : resA N L ts cs = .tup [.agg [.v (.int .i64 N), aRows (rsdL L ts cs)], .v (.int .i64 0)] := by unfold resA; rw [if_pos ⟨hp.hz, hg⟩]; rfl
    have hxc := res_check hp.hz hg
    have hxo := okRows_check hxc
    have hvx : varsOf N (rsdL L ts cs) = varsT (rsdL L ts cs) := by unfold varsOf; rw [if_pos hxc]
    have hxl := (checkT_ok hxc).2.2.1
    have hfj := HFI.out
    rw [if_pos hg] at hfj
    simp only at hfj
    have HFJ := Lib.hid hfj
    clear HFI hfj
    generalize rsdL L ts cs = X at hA hxc hxo hvx hxl HFJ
    refine amStr (h := ?_)
    refine amReg PT202_ok (h := ?_)
    refine amStr (h := ?_)
    refine amDrs PT202_ok (h := ?_)
    refine amStr (h := ?_)
    refine amReg PT202_ok (h := ?_)
    refine amStr (h := ?_)
    refine s_weak (τ := ⟨112, [(3, .ptr 0 0 0), (4, .ptr 1 0 0), (6, .v (.bool false)), (9, .ptr 8 0 0), (10, .ptr 9 0 0), (36, aInts E), (37, .v (.int .i64 (E.length : Int))), (38, .v (.int .i64 (j : Int))), (12, .v (.int .i64 (m : Int))), (13, .ptr 66 0 0), (14, .v (.int .i64 0)), (15, .ptr 69 0 0)], [(50, ⟨30, 1, A.map fun xs => [aInts xs]⟩), (0, ⟨58, 1, [[.pt [.v (.int .i64 N), aRows L, .v (.int .i64 N), aNds ns, aCls cl]]]⟩), (1, ⟨24, 2, [[.v (.int .i64 N), aRows R1]]⟩), (8, ⟨24, 2, [[.v (.int .i64 N), .ref 50 0 A.length]]⟩), (9, ⟨47, 2, [[.v (.int .u64 ((lo sn).toNat : Int)), .v (.int .u64 ((hi sn).toNat : Int))]]⟩), (66, ⟨24, 2, [[.v (.int .i64 N), aRows X]]⟩), (69, ⟨47, 2, [[.v (.int .u64 ((lo (varsT X)).toNat : Int)), .v (.int .u64 ((hi (varsT X)).toNat : Int))]]⟩)], [69, 66, 50, 9, 8, 1, 0]⟩) ?_ ?_
    ·(refine weak_id rfl ?_ ?_ <;> ((try simp only [List.mem_cons, List.not_mem_nil, or_false, forall_eq_or_imp, forall_eq]); (try simp (disch := omega) [i64w, *])))
     all_goals exact ⟨rfl, rfl⟩
    unfold aNds
    by_cases hk2 : K = 2
    ·have hF : fitV N L ns cl R is = false := by
      have h := HFJ.out
      rw [if_pos hk2] at h
      rw [hfv, ← h]
     rw [hF]
     have hkb : (K == 2) = true := by simpa using hk2
     refine amStr (h := ?_)
     refine amReg PT202_ok (h := ?_)
     refine amStr (h := ?_)
     refine amReg PT202_ok (h := ?_)
     refine amStr (h := ?_)
     (refine amRt Tryz.results47 (h := ?_); try simp [*])
    ·have hkb : (K == 2) = false := by simpa using hk2
     obtain ⟨e1, e2, _⟩ := lo_op sn (varsT X)
     have hse := setEq0 (sn &&& varsT X)
     obtain ⟨W, hW⟩ : ∃ W, sn &&& varsT X = W := ⟨_, rfl⟩
     rw [hW] at e1 e2 hse
     have hse2 : (!((wAnd (lo sn) (lo (varsT X))).toNat : Int) == 0 || !((wAnd (hi sn) (hi (varsT X))).toNat : Int) == 0) = !decide (W = 0#128) := by rw [← e1, ← e2, ← Bool.not_and, hse]
     clear hse
     by_cases hsn : W = 0#128
     ·rw [decide_eq_true hsn] at hse2
      obtain ⟨_, _, u1, u2, _⟩ := lo_op sn (varsT X)
      have hnx : fit2 N L ns cl (E.drop (j + 1)) (sn ||| varsT X) (A ++ if [] ∈ X ∧ [] ∈ A then X.drop 1 else X) = fit2 N L ns cl E 0#128 [] := by
       have h := HFJ.out
       rw [if_neg hk2, hW, if_neg (fun hc => hc hsn)] at h
       exact h
      have HNX := Lib.hid hnx
      clear hnx
      refine amStr (h := ?_)
      refine amReg PT202_ok (h := ?_)
      refine amStr (h := ?_)
      refine amReg PT202_ok (h := ?_)
      refine amStr (h := ?_)
      refine s_weak (τ := ⟨112, [(3, .ptr 0 0 0), (4, .ptr 1 0 0), (6, .v (.bool false)), (9, .ptr 8 0 0), (10, .ptr 9 0 0), (36, aInts E), (37, .v (.int .i64 (E.length : Int))), (38, .v (.int .i64 (j : Int))), (13, .ptr 66 0 0)], [(50, ⟨30, 1, A.map fun xs => [aInts xs]⟩), (0, ⟨58, 1, [[.pt [.v (.int .i64 N), aRows L, .v (.int .i64 N), aNds ns, aCls cl]]]⟩), (1, ⟨24, 2, [[.v (.int .i64 N), aRows R1]]⟩), (8, ⟨24, 2, [[.v (.int .i64 N), .ref 50 0 A.length]]⟩), (9, ⟨47, 2, [[.v (.int .u64 ((lo (sn ||| varsT X)).toNat : Int)), .v (.int .u64 ((hi (sn ||| varsT X)).toNat : Int))]]⟩), (66, ⟨24, 2, [[.v (.int .i64 N), aRows X]]⟩)], [66, 50, 9, 8, 1, 0]⟩) ?_ ?_
      ·(refine weak_id rfl ?_ ?_ <;> ((try simp only [List.mem_cons, List.not_mem_nil, or_false, forall_eq_or_imp, forall_eq]); (try simp (disch := omega) [i64w, *])))
       all_goals rfl
      clear u1 u2 hse2 e1 e2 hW
      generalize sn ||| varsT X = sm at HNX ⊢
      have htn : toInts (.v (.slice none 0 0)) = some [] := rfl
      have hto : okInts [] = true := rfl
      have hAX : (A.length + X.length) * 24 ≤ 140737488355328 := by omega
      have hAl2 : (A ++ X).length ≤ 4096 * (j + 1) := by rw [List.length_append]; omega
      refine s_regionL ?_
      ((iterate 2 (((with_reducible refine spl_step TT_ok PT202_ok (id := 0) (σ' := ?_) ?_ ?_); rotate_left; (focus (simp [*]; rfl))))))
      cases hx0 : decide ([] ∈ X)
      ·have hXe : (if [] ∈ X ∧ [] ∈ A then X.drop 1 else X) = X := if_neg fun h => by rw [decide_eq_true h.1] at hx0; cases hx0
       rw [hXe] at HNX
       clear hXe
       ((iterate 4 (((with_reducible refine spl_step TT_ok PT202_ok (id := 0) (σ' := ?_) ?_ ?_); rotate_left; (focus (simp [*]; rfl))))))
       refine spl_nil ?_
       refine amStr (h := ?_)
       refine amReg PT202_ok (h := ?_)
       refine amStr (h := ?_)
       refine amReg PT202_ok (h := ?_)
       refine k_lp (⟨(j + 1, sm, A ++ X), hjj, hAl2, okRows_appV hAo hxo (by omega), HNX⟩ : Fit2I N L ns cl E) (by first | omega | (dsimp only; omega)) ?_
       (refine weak_of (fun q => if q = 50 then 71 else q) ⟨rfl, ?_, ?_, ?_⟩ <;> ((try simp only [List.mem_cons, List.not_mem_nil, or_false, forall_eq_or_imp, forall_eq]); (try simp (disch := omega) [lk, AV.ids, idsL, idsLL, AV.ren, renL, renLL, i64w, *])))
       all_goals exact ⟨rfl, rfl⟩
      ·have hX1 : 1 ≤ X.length := by
        have hm1 : [] ∈ X := of_decide_eq_true hx0
        have := List.length_pos_of_mem hm1
        omega
       ((iterate 2 (((with_reducible refine spl_step TT_ok PT202_ok (id := 0) (σ' := ?_) ?_ ?_); rotate_left; (focus (simp [*]; rfl))))))
       refine spl_op rfl rfl (ok_callAll (f := 46) (avs := [.agg [.v (.int .i64 N), .ref 50 0 A.length], .v (.slice none 0 0)]) (bvs := [aTh N A, aInts []]) (res := .v (.bool (decide ([] ∈ A)))) (enters_ok (avs := [.agg [.v (.int .i64 N), .ref 50 0 A.length], .v (.slice none 0 0)]) (cs := []) rfl (by kernel_rfl) rfl rfl) rfl (fun B4 G4 w4 a4 hr4 i4 u4 hi4 hu4 => ?_) (has_p N A [] hNo hAo hto) rfl) ?_
       ·match i4, hi4 with
        | 0, _ => exact read_ownTh hr4 rfl hu4
        | 1, _ =>
         have hu5 : Rv G4 (.v (.slice none 0 0)) u4 := hu4
         rw [hu5.v_eq]
         exact rv_nil0 1
       (refine spl_eq (τ := ?_) ?_ ?_; rotate_left; (focus ((try simp only [AS.frz, List.map_cons, List.map_nil]); (try simp [frzV, frzO, frzC, List.filter]); rfl)))
       cases hx1 : decide ([] ∈ A)
       ·have hXe : (if [] ∈ X ∧ [] ∈ A then X.drop 1 else X) = X := if_neg fun h => by rw [decide_eq_true h.2] at hx1; cases hx1
        rw [hXe] at HNX
        clear hXe
        ((iterate 1 (((with_reducible refine spl_step TT_ok PT202_ok (id := 0) (σ' := ?_) ?_ ?_); rotate_left; (focus (simp [*]; rfl))))))
        refine spl_nil ?_
        refine amStr (h := ?_)
        refine amReg PT202_ok (h := ?_)
        refine amStr (h := ?_)
        refine amReg PT202_ok (h := ?_)
        refine k_lp (⟨(j + 1, sm, A ++ X), hjj, hAl2, okRows_appV hAo hxo (by omega), HNX⟩ : Fit2I N L ns cl E) (by first | omega | (dsimp only; omega)) ?_
        (refine weak_of (fun q => if q = 50 then 71 else q) ⟨rfl, ?_, ?_, ?_⟩ <;> ((try simp only [List.mem_cons, List.not_mem_nil, or_false, forall_eq_or_imp, forall_eq]); (try simp (disch := omega) [lk, AV.ids, idsL, idsLL, AV.ren, renL, renLL, i64w, *])))
        all_goals exact ⟨rfl, rfl⟩
       ·have hXe : (if [] ∈ X ∧ [] ∈ A then X.drop 1 else X) = X.drop 1 := if_pos ⟨of_decide_eq_true hx0, of_decide_eq_true hx1⟩
        rw [hXe] at HNX
        clear hXe
        have hX1i : (1 : Int) ≤ (X.length : Int) := by omega
        have hAX2 : (A.length + (X.length - 1)) * 24 ≤ 140737488355328 := by clear hAX; omega
        have hxo2 : okRows (X.drop 1) = true := okRows_dropV hxo
        ((iterate 1 (((with_reducible refine spl_step TT_ok PT202_ok (id := 0) (σ' := ?_) ?_ ?_); rotate_left; (focus (simp [*]; rfl))))))
        refine spl_nil ?_
        refine amStr (h := ?_)
        have hdX : List.take (X.length - 1) (List.drop 1 X) = X.drop 1 := List.take_of_length_le (by simp)
        have hXd := List.length_drop (i := 1) (l := X)
        have hAl3 : (A ++ X.drop 1).length ≤ 4096 * (j + 1) := by rw [List.length_append, hXd]; omega
        have hokk := okRows_appV hAo hxo2 (by rw [hXd]; omega)
        obtain ⟨Y, hY⟩ : ∃ Y, X.drop 1 = Y := ⟨_, rfl⟩
        rw [hY] at hdX hXd hAl3 hokk HNX hxo2
        rw [← hXd] at hAX2
        replace hXd := hXd.symm
        refine amReg PT202_ok (h := ?_)
        refine amStr (h := ?_)
        refine amReg PT202_ok (h := ?_)
        refine amStr (h := ?_)
        refine amReg PT202_ok (h := ?_)
        refine k_lp (⟨(j + 1, sm, A ++ Y), hjj, hAl3, hokk, HNX⟩ : Fit2I N L ns cl E) (by first | omega | (dsimp only; omega)) ?_
        (refine weak_of (fun q => if q = 50 then 71 else q) ⟨rfl, ?_, ?_, ?_⟩ <;> ((try simp only [List.mem_cons, List.not_mem_nil, or_false, forall_eq_or_imp, forall_eq]); (try simp (disch := omega) [lk, AV.ids, idsL, idsLL, AV.ren, renL, renLL, i64w, *])))
        all_goals exact ⟨rfl, rfl⟩
     ·have hF : fitV N L ns cl R is = false := by
       have h := HFJ.out
       rw [if_neg hk2, hW, if_pos hsn] at h
       rw [hfv, ← h]
      rw [hF]
      rw [decide_eq_false hsn] at hse2
      refine amStr (h := ?_)
      refine amReg PT202_ok (h := ?_)
      refine amStr (h := ?_)
      refine amReg PT202_ok (h := ?_)
      refine amStr (h := ?_)
      (refine amRt Tryz.results47 (h := ?_); try simp [*])
  ·have hall : fit2 N L ns cl E 0#128 [] = some A := by
    have h := HA.out
    rw [List.drop_eq_nil_of_le (by omega), fit2] at h
    exact h.symm
   have hF : fitV N L ns cl R is = (decide (checkT N A = 0) && decide (R1 = normL A)) := by rw [hfv, hall]
   rw [hF]
   clear hF hall
   refine s_frz (fun q => q == 50) ?_
   (refine s_eq (τ := ?_) ?_ ?_; rotate_left; (focus ((try simp only [AS.frz, List.map_cons, List.map_nil]); (try simp [frzV, frzO, frzC, List.filter]); rfl)))
   refine s_weak (τ := ⟨112, [(3, .ptr 0 0 0), (4, .ptr 1 0 0), (6, .v (.bool false)), (9, .ptr 8 0 0)], [(0, ⟨58, 1, [[.pt [.v (.int .i64 N), aRows L, .v (.int .i64 N), aNds ns, aCls cl]]]⟩), (1, ⟨24, 2, [[.v (.int .i64 N), aRows R1]]⟩), (8, ⟨24, 2, [[.v (.int .i64 N), aRows A]]⟩)], [8, 1, 0]⟩) ?_ ?_
   ·(refine weak_id rfl ?_ ?_ <;> ((try simp only [List.mem_cons, List.not_mem_nil, or_false, forall_eq_or_imp, forall_eq]); (try simp (disch := omega) [i64w, *])))
    all_goals exact ⟨rfl, rfl⟩
   by_cases hca : checkT N A = 0
   ·have hna : normA N A = .tup [.agg [.v (.int .i64 N), aRows (normL A)], .v (.int .i64 0)] := by unfold normA; rw [if_pos hca]; rfl
    have hnk := okRows_check (normL_check hca)
    rw [decide_eq_true hca, Bool.true_and]
    refine amStr (h := ?_)
    refine amReg PT202_ok (h := ?_)
    refine amStr (h := ?_)
    refine amReg PT202_ok (h := ?_)
    refine amStr (h := ?_)
    (refine amRt Tryz.results47 (h := ?_); try simp [*])
   ·have hna : normA N A = .tup [.agg [.v (.int .i64 0), .v (.slice none 0 0)], .v (.int .i64 (checkT N A))] := by unfold normA; rw [if_neg hca]
    have hcb : (checkT N A == 0) = false := by simpa using hca
    rw [decide_eq_false hca, Bool.false_and]
    refine amStr (h := ?_)
    refine amReg PT202_ok (h := ?_)
    refine amStr (h := ?_)
    refine amReg PT202_ok (h := ?_)
    refine amStr (h := ?_)
    (refine amRt Tryz.results47 (h := ?_); try simp [*])
end Go.Proofs.YtllkogdgmmcfgaaGreatDoor
/- Vo23: The table with fit; no condition. -/
namespace Go.Proofs.YtllkogdgmmcfgaaGreatDoor
set_option linter.unusedVariables false
set_option linter.unusedSimpArgs false
set_option linter.unusedSectionVars false
open Go.RowKit
set_option maxRecDepth 100000
@[simp] def g_vFit : List AV → Option (AV × Bool)
 | [.pt [.v (.int .i64 N), a0, .v (.int .i64 N'), b0, c0], .agg [.v (.int .i64 M), a1], a2] => (match toRows a0 with | some L => (match toNds b0 with | some ns => (match toCls c0 with | some cl => (match toRows a1 with | some R => (match toInts a2 with | some is => if (decide (N' = N) && prfB N L ns cl && okI M && okRows R && okInts is && (decide (M = N) && decide (checkT N R = 0) && idxB ns is && decide (is.length ≤ 400))) = true then some (.v (.bool (fitV N L ns cl R is)), false) else none | none => none) | none => none) | none => none) | none => none) | none => none)
 | _ => none
theorem e_vFit : EntOk Tryz.prog 47 g_vFit := ent_pure (by kernel_rfl) fun args r fr h => by
 unfold g_vFit at h
 split at h
 ·rename_i N a0 N' b0 c0 M a1 a2
  split at h
  ·rename_i L t0
   split at h
   ·rename_i ns s0
    split at h
    ·rename_i cl w0
     split at h
     ·rename_i R t1
      split at h
      ·rename_i is t2
       split at h
       ·rename_i hc
        simp only [Bool.and_eq_true] at hc
        obtain ⟨⟨⟨⟨⟨e0, o0⟩, m1⟩, o1⟩, o2⟩, hk⟩ := hc
        cases h
        exact ⟨FnPure.cov (by have e1 : M = N := of_decide_eq_true hk.1.1.1; subst e1; exact fit_p M L ns cl R is (prf_of o0) o1 (of_decide_eq_true hk.1.1.2) o2 hk.1.2 (of_decide_eq_true hk.2)) (.cons (cov_prf2 e0 t0 s0 w0) (.cons (cov_th _ (cov_rows t1)) (.cons (cov_ints t2) .nil))), rfl⟩
       ·cases h
      ·cases h
     ·cases h
    ·cases h
   ·cases h
  ·cases h
 ·cases h

def l203 : List (FuncId × (List AV → Option (AV × Bool))) :=
 (47, g_vFit) :: l202
theorem l203_ok : ∀ p ∈ l203, EntOk Tryz.prog p.1 p.2 := ent_cons e_vFit (l202_ok)
def PT203 : PTab := tab l203
theorem PT203_ok : PTok Tryz.prog PT203 := tab_ok l203_ok
@[simp] theorem PT203_vFit : PT203 47 = g_vFit := rfl
@[simp] theorem PT203_old (f : FuncId) (h : decide (f ≠ 47) = true) : PT203 f = PT202 f := tab_old (of_decide_eq_true h)
end Go.Proofs.YtllkogdgmmcfgaaGreatDoor
