/- vars.List: the variables of a set, from the least; no condition. -/
import Derived.Test.YtecdhmiamlgibaaDoorTz
import Derived.Test.YtecdhmiamlgibaaDoorWl
import Derived.Test.YtecdhmiamlgibaaDoorNil
namespace Go.Proofs.YtecdhmiamlgibaaDoor
set_option linter.unusedVariables false
set_option linter.unusedSimpArgs false
set_option linter.unusedSectionVars false
open Go.RowKit
open Wlk
attribute [-simp] List.getD_eq_getElem?_getD
set_option maxRecDepth 100000
def tzN (x : Nat) : Nat := (bitsW x).headD 0
@[simp] def g_tz : List AV → Option (AV × Bool)
 | [.v (.int .u64 x)] => if 0 < x ∧ x < 18446744073709551616 then some (.v (.int .i64 (tzN x.toNat : Nat)), false) else none
 | _ => none
theorem e_tz : EntOk Tryd.prog 116 g_tz := ent_pure (by kernel_rfl) fun args r fr h => by
 unfold g_tz at h
 split at h
 ·split at h
  ·rename_i x hc
   cases h
   obtain ⟨n, rfl⟩ := Int.eq_ofNat_of_zero_le (Int.le_of_lt hc.1)
   obtain ⟨k, m, hk⟩ := low_ex n (by omega)
   have hn : n < 18446744073709551616 := by omega
   have hb := bitsW_low hk (by rw [two64]; exact hn)
   refine ⟨?_, rfl⟩
   unfold tzN
   rw [Int.toNat_natCast, hb]
   exact tz_p n k m hk hn
  ·cases h
 ·cases h
def lz1 : List (FuncId × (List AV → Option (AV × Bool))) := (116, g_tz) :: []
theorem lz1_ok : ∀ p ∈ lz1, EntOk Tryd.prog p.1 p.2 := ent_cons e_tz (ent_nil)
def PTz : PTab := tab lz1
theorem PTz_ok : PTok Tryd.prog PTz := tab_ok lz1_ok
@[simp] theorem PTz_tz : PTz 116 = g_tz := rfl
def wVars (v : Nat) (l : List Nat) : List Int := l.map fun i => ((v + i : Nat) : Int)
theorem wVars_len (v x : Nat) : (wVars v (bitsW x)).length ≤ 64 := by
 unfold wVars bitsW
 rw [List.length_map]
 exact Nat.le_trans (List.length_filter_le _ _) (by simp)
def listS (s : BitVec 128) : List Int := wVars 1 (bitsW (lo s).toNat) ++ wVars 65 (bitsW (hi s).toNat)
def accS (s : BitVec 128) (i : Nat) : List Int := if i = 0 then [] else if i = 1 then wVars 1 (bitsW (lo s).toNat) else listS s
def accW (bs : List Int) (v : Nat) (d : List Nat) : List Int := bs ++ wVars v d
theorem accW_snoc (bs : List Int) (v : Nat) (d : List Nat) (k : Nat) : accW bs v (d ++ [k]) = accW bs v d ++ [((v + k : Nat) : Int)] := by simp [accW, wVars]
theorem accW_len (bs : List Int) (v : Nat) {d : List Nat} {x W : Nat} (h : d ++ bitsW x = bitsW W) : (accW bs v d).length ≤ bs.length + 64 := by
 have h2 := wVars_len v W
 unfold wVars at h2
 rw [← h, List.length_map, List.length_append] at h2
 simp only [accW, wVars, List.length_append, List.length_map]; omega
theorem u64_dec {x : Nat} (h0 : 0 < x) (hx : x < 18446744073709551616) : IntKind.u64.wrap ((x : Int) - 1) = ((x - 1 : Nat) : Int) := by rw [u64_wr]; omega
theorem u64_and {x : Nat} (hx : x < 18446744073709551616) : IntKind.u64.wrap (((x % 2 ^ IntKind.u64.bits &&& (x - 1) % 2 ^ IntKind.u64.bits : Nat)) : Int) = ((x &&& (x - 1) : Nat) : Int) := by
 have hb : (2 : Nat) ^ IntKind.u64.bits = 18446744073709551616 := rfl
 have h2 : x &&& (x - 1) ≤ x := Nat.and_le_left
 rw [hb, Nat.mod_eq_of_lt hx, Nat.mod_eq_of_lt (by omega), u64_wr]
 omega
theorem vList_p (s : BitVec 128) : FnPure Tryd.prog 92 [aSet s] (aInts (listS s)) := by
 unfold aSet WV
 refine fn_sp TT_ok Tryd.func92 (c := _) rfl (by simp [Tryd.ntmps92]) (fun B hI0 hro => ?_)
 rw [Tryd.ntmps92]
 simp only [enumA]
 refine amStr (h := ?_)
 refine amReg PTz_ok (h := ?_)
 refine amStr (h := ?_)
 refine s_regionL ?_
 ((iterate 1 (((with_reducible refine spl_step TT_ok PTz_ok (id := 0) (σ' := ?_) ?_ ?_); rotate_left; (focus (simp [*]; rfl))))))
 refine spl_call TT_ok rfl rfl rfl (by kernel_rfl) Tryd.func95 rfl (avs := [.agg [.v (.int .u64 ((lo s).toNat : Int)), .v (.int .u64 ((hi s).toNat : Int))]]) (cs := []) rfl rfl (by simp [Tryd.ntmps95]) fun B1 hI1 hro1 => ?_
 rw [Tryd.ntmps95, Tryd.results95]
 simp only [enumA, List.append_nil]
 refine amGo PTz_ok (h := ?_)
 refine ⟨.inr rfl, .clo 115 [.ptr 1 0 0], ?_, ?_⟩
 ·simp [retA, retL, ret1, lk]
 refine spl_call TT_ok rfl rfl rfl (by kernel_rfl) Tryd.func114 rfl (avs := [.clo 115 [.ptr 1 0 0]]) (cs := []) rfl rfl (by simp [Tryd.ntmps114]) fun B2 hI2 hro2 => ?_
 rw [Tryd.ntmps114, Tryd.results114]
 simp only [enumA, List.append_nil]
 refine amStr (h := ?_)
 refine amReg PTz_ok (h := ?_)
 refine amStr (h := ?_)
 refine s_regionL ?_
 ((iterate 1 (((with_reducible refine spl_step TT_ok PTz_ok (id := 0) (σ' := ?_) ?_ ?_); rotate_left; (focus (simp [*]; rfl))))))
 refine spl_call TT_ok rfl rfl rfl (by kernel_rfl) Tryd.func123 rfl (avs := [.v (.slice none 0 0), .clo 115 [.ptr 1 0 0]]) (cs := []) rfl rfl (by simp [Tryd.ntmps123]) fun B3 hI3 hro3 => ?_
 rw [Tryd.ntmps123, Tryd.results123]
 simp only [enumA, List.append_nil]
 refine amStr (h := ?_)
 refine amReg PTz_ok (h := ?_)
 refine amStr (h := ?_)
 refine amReg PTz_ok (h := ?_)
 refine amStr (h := ?_)
 (refine s_eq (τ := ?_) ?_ ?_; rotate_left; (focus ((try simp only [AS.frz, List.map_cons, List.map_nil]); (try simp [frzV, frzO, frzC, List.filter]); rfl)))
 refine s_range TT_ok 4 (by simp) hro3 (f := 115) (cs := [.ptr 1 0 0]) rfl (by kernel_rfl) Tryd.func115 rfl (by simp [Tryd.ntmps115]) (by simp) fun B4 hI4 hro4 hY => ?_
 rw [Tryd.ntmps115, Tryd.results115]
 simp only [enumA]
 refine s_cnil 2 0 0 5 3 1 rfl rfl (by simp) ?_ (by decide)
 (refine s_eq (τ := ?_) ?_ ?_; rotate_left; (focus ((try simp only [AS.frz, List.map_cons, List.map_nil]); (try simp [frzV, frzO, frzC, List.filter]); rfl)))
 refine amStr (h := ?_)
 refine amReg PTz_ok (h := ?_)
 refine amStr (h := ?_)
 refine s_loopI hI4 (J := fun i : {k : Nat // k ≤ 2} => ⟨26, [(0, .yld 4), (1, .ptr 1 0 0), (5, .agg [.v (.int .u64 ((lo s).toNat : Int)), .v (.int .u64 ((hi s).toNat : Int))]), (6, .v (.int .i64 (i.1 : Int)))], [(5, ⟨3, 1, (accS s i.1).map fun x => [.v (.int .i64 x)]⟩), (0, ⟨27, 2, [[.v (.int .u64 ((lo s).toNat : Int)), .v (.int .u64 ((hi s).toNat : Int))]]⟩), (1, ⟨27, 2, [[.v (.int .u64 ((lo s).toNat : Int)), .v (.int .u64 ((hi s).toNat : Int))]]⟩), (2, ⟨34, 1, [[.ref 5 0 (accS s i.1).length]]⟩)], [5, 4, 2, 1, 0]⟩) (μ := fun i => 2 - i.1) ⟨0, by omega⟩ ?_ (fun ⟨i, hik⟩ => ?_)
 ·have h0 : accS s 0 = [] := rfl
  refine weakI_of (fun k => k) ⟨rfl, ?_, ?_, ?_⟩ ?_ <;> simp [h0, lk, AV.ids, idsL, idsLL, AV.ren, renL, renLL]
 refine amStr (h := ?_)
 refine amReg PTz_ok (h := ?_)
 refine amStr (h := ?_)
 (focus ((with_reducible refine sp_cond (b := ?_) ?_ (fun hc => ?_) (fun hc => ?_)); rotate_left; (focus (first | rfl | (simp [lk, AS.ev]; rfl))); all_goals (try simp at hc)))
 ·rcases (by omega : i = 0 ∨ i = 1) with rfl | rfl
  ·obtain ⟨W, hW⟩ : ∃ W, (lo s).toNat = W := ⟨_, rfl⟩
   have hWl : W < 18446744073709551616 := by rw [← hW]; exact (lo s).isLt
   obtain ⟨bs, hbs⟩ : ∃ bs : List Int, accS s 0 = bs := ⟨_, rfl⟩
   have hbl : bs.length ≤ 0 := by rw [← hbs]; exact Nat.le_refl 0
   have hnx : accS s 1 = bs ++ wVars 1 (bitsW W) := by rw [← hbs, ← hW]; rfl
   refine amStr (h := ?_)
   refine amReg PTz_ok (h := ?_)
   refine amStr (h := ?_)
   refine s_loopI hI4 (J := fun p : {p : List Nat × Nat // p.1 ++ bitsW p.2 = bitsW W ∧ p.2 < 18446744073709551616} => ⟨26, [(0, .yld 4), (1, .ptr 1 0 0), (3, .v (.int .i64 0)), (4, .v (.int .u64 (p.1.2 : Int))), (5, .agg [.v (.int .u64 ((lo s).toNat : Int)), .v (.int .u64 ((hi s).toNat : Int))]), (6, .v (.int .i64 0))], [(5, ⟨3, 1, (accW bs 1 p.1.1).map fun x => [.v (.int .i64 x)]⟩), (0, ⟨27, 2, [[.v (.int .u64 ((lo s).toNat : Int)), .v (.int .u64 ((hi s).toNat : Int))]]⟩), (1, ⟨27, 2, [[.v (.int .u64 ((lo s).toNat : Int)), .v (.int .u64 ((hi s).toNat : Int))]]⟩), (2, ⟨34, 1, [[.ref 5 0 (accW bs 1 p.1.1).length]]⟩)], [5, 4, 2, 1, 0]⟩) (μ := fun p => p.1.2) ⟨([], W), rfl, hWl⟩ ?_ (fun ⟨⟨d, x⟩, hd, hx⟩ => ?_)
   ·have hv : accW bs 1 [] = bs := List.append_nil bs
    refine weakI_of (fun k => k) ⟨rfl, ?_, ?_, ?_⟩ ?_ <;> simp [hv, hW, lk, AV.ids, idsL, idsLL, AV.ren, renL, renLL]
   dsimp only at hd hx
   refine amStr (h := ?_)
   refine amReg PTz_ok (h := ?_)
   refine amStr (h := ?_)
   by_cases hx0 : x = 0
   ·subst hx0
    have hdd : d = bitsW W := by rw [← hd, bitsW_zero, List.append_nil]
    have hfin : accW bs 1 d = accS s 1 := by rw [hnx, hdd]; rfl
    have hnz : (((0 : Nat) : Int) != 0) = false := rfl
    clear hdd
    refine amStr (h := ?_)
    refine amReg PTz_ok (h := ?_)
    refine amStr (h := ?_)
    refine ki_lp (⟨1, by omega⟩ : {k : Nat // k ≤ 2}) (by dsimp only; omega) ?_
    (refine weakI_of (fun q => q) ⟨rfl, ?_, ?_, ?_⟩ ?_ <;> ((try simp only [List.mem_cons, List.not_mem_nil, or_false, forall_eq_or_imp, forall_eq]); (try simp (disch := omega) [lk, AV.ids, idsL, idsLL, AV.ren, renL, renLL, i64w, *])))
   ·have hne : ((x : Int) != 0) = true := by simpa using hx0
    obtain ⟨k, m, hk⟩ := low_ex x (by omega)
    have hx2 : x < 2 ^ 64 := by rw [two64]; exact hx
    have hb := bitsW_low hk hx2
    have hcl := low_clear hk
    have hk64 := low_lt hk hx2
    have hdl := accW_len bs 1 hd
    have hcap : ((accW bs 1 d).length + 1) * 8 ≤ 140737488355328 := by omega
    have hsn := accW_snoc bs 1 d k
    have hx0' : 0 < x := by omega
    have hlt : x &&& (x - 1) < x := Nat.lt_of_le_of_lt Nat.and_le_right (by omega)
    have hd2 : (d ++ [k]) ++ bitsW (x &&& (x - 1)) = bitsW W := by rw [hcl, List.append_assoc, List.singleton_append, ← hb]; exact hd
    have hhd : tzN x = k := by unfold tzN; rw [hb]; rfl
    have hxi : (x : Int) < 18446744073709551616 := by omega
    have h0i : (0 : Int) < (x : Int) := by omega
    have hwm := u64_dec hx0' hx
    have hand := u64_and hx
    have hw1 : IntKind.i64.wrap (k : Int) = k := i64n k (by omega)
    have hw2 : IntKind.i64.wrap ((k : Int) + 1) = k + 1 := i64s k (by omega)
    have hw3 : IntKind.i64.wrap (64 + (k : Int)) = 64 + k := i64w (by omega) (by omega)
    have hw4 : IntKind.i64.wrap (64 + (k : Int) + 1) = 64 + k + 1 := i64w (by omega) (by omega)
    have hw5 : IntKind.i64.wrap 0 = 0 := rfl
    have hw6 : IntKind.i64.wrap 64 = 64 := rfl
    clear hk hx2 hb hcl hnx hbs
    refine amStr (h := ?_)
    refine s_regionL ?_
    ((iterate 7 (((with_reducible refine spl_step TT_ok PTz_ok (id := 0) (σ' := ?_) ?_ ?_); rotate_left; (focus (simp [*]; rfl))))))
    refine hY _ _ _ _ _ _ _ _ [.v (.int .i64 ((k : Int) + 1))] rfl rfl rfl rfl rfl rfl fun B5 hI5 hro5 => ?_
    simp only [setps, st]
    refine amStr (h := ?_)
    refine amReg PTz_ok (h := ?_)
    refine ⟨rfl, fun B6 hI6 hro6 => ?_⟩
    refine amStr (h := ?_)
    refine s_regionL ?_
    ((iterate 2 (((with_reducible refine spl_step TT_ok PTz_ok (id := 0) (σ' := ?_) ?_ ?_); rotate_left; (focus (simp [*]; rfl))))))
    (((with_reducible refine spl_step TT_ok PTz_ok (id := 6) (σ' := ?_) ?_ ?_); rotate_left; (focus (simp [*]; rfl))))
    (((with_reducible refine spl_step TT_ok PTz_ok (id := 7) (σ' := ?_) ?_ ?_); rotate_left; (focus (simp [*]; rfl))))
    ((iterate 1 (((with_reducible refine spl_step TT_ok PTz_ok (id := 0) (σ' := ?_) ?_ ?_); rotate_left; (focus (simp [*]; rfl))))))
    refine spl_nil ?_
    refine amStr (h := ?_)
    refine ⟨rfl, ?_⟩
    ((iterate 1 (((with_reducible refine spl_step TT_ok PTz_ok (id := 0) (σ' := ?_) ?_ ?_); rotate_left; (focus (simp [*]; rfl))))))
    refine spl_nil ?_
    refine amStr (h := ?_)
    refine amReg PTz_ok (h := ?_)
    refine amStr (h := ?_)
    refine ki_lp (⟨(d ++ [k], x &&& (x - 1)), hd2, Nat.lt_trans hlt hx⟩ : {p : List Nat × Nat // p.1 ++ bitsW p.2 = bitsW W ∧ p.2 < 18446744073709551616}) hlt ?_
    (refine weakI_of (fun q => if q = 5 then 7 else q) ⟨rfl, ?_, ?_, ?_⟩ ?_ <;> ((try simp only [List.mem_cons, List.not_mem_nil, or_false, forall_eq_or_imp, forall_eq]); (try simp (disch := omega) [lk, AV.ids, idsL, idsLL, AV.ren, renL, renLL, i64w, *])))
    all_goals omega
  ·obtain ⟨W, hW⟩ : ∃ W, (hi s).toNat = W := ⟨_, rfl⟩
   have hWl : W < 18446744073709551616 := by rw [← hW]; exact (hi s).isLt
   obtain ⟨bs, hbs⟩ : ∃ bs : List Int, accS s 1 = bs := ⟨_, rfl⟩
   have hbl : bs.length ≤ 64 := by rw [← hbs]; exact wVars_len _ _
   have hnx : accS s 2 = bs ++ wVars 65 (bitsW W) := by rw [← hbs, ← hW]; rfl
   refine amStr (h := ?_)
   refine amReg PTz_ok (h := ?_)
   refine amStr (h := ?_)
   refine s_loopI hI4 (J := fun p : {p : List Nat × Nat // p.1 ++ bitsW p.2 = bitsW W ∧ p.2 < 18446744073709551616} => ⟨26, [(0, .yld 4), (1, .ptr 1 0 0), (3, .v (.int .i64 1)), (4, .v (.int .u64 (p.1.2 : Int))), (5, .agg [.v (.int .u64 ((lo s).toNat : Int)), .v (.int .u64 ((hi s).toNat : Int))]), (6, .v (.int .i64 1))], [(5, ⟨3, 1, (accW bs 65 p.1.1).map fun x => [.v (.int .i64 x)]⟩), (0, ⟨27, 2, [[.v (.int .u64 ((lo s).toNat : Int)), .v (.int .u64 ((hi s).toNat : Int))]]⟩), (1, ⟨27, 2, [[.v (.int .u64 ((lo s).toNat : Int)), .v (.int .u64 ((hi s).toNat : Int))]]⟩), (2, ⟨34, 1, [[.ref 5 0 (accW bs 65 p.1.1).length]]⟩)], [5, 4, 2, 1, 0]⟩) (μ := fun p => p.1.2) ⟨([], W), rfl, hWl⟩ ?_ (fun ⟨⟨d, x⟩, hd, hx⟩ => ?_)
   ·have hv : accW bs 65 [] = bs := List.append_nil bs
    refine weakI_of (fun k => k) ⟨rfl, ?_, ?_, ?_⟩ ?_ <;> simp [hv, hW, lk, AV.ids, idsL, idsLL, AV.ren, renL, renLL]
   dsimp only at hd hx
   refine amStr (h := ?_)
   refine amReg PTz_ok (h := ?_)
   refine amStr (h := ?_)
   by_cases hx0 : x = 0
   ·subst hx0
    have hdd : d = bitsW W := by rw [← hd, bitsW_zero, List.append_nil]
    have hfin : accW bs 65 d = accS s 2 := by rw [hnx, hdd]; rfl
    have hnz : (((0 : Nat) : Int) != 0) = false := rfl
    clear hdd
    refine amStr (h := ?_)
    refine amReg PTz_ok (h := ?_)
    refine amStr (h := ?_)
    refine ki_lp (⟨2, by omega⟩ : {k : Nat // k ≤ 2}) (by dsimp only; omega) ?_
    (refine weakI_of (fun q => q) ⟨rfl, ?_, ?_, ?_⟩ ?_ <;> ((try simp only [List.mem_cons, List.not_mem_nil, or_false, forall_eq_or_imp, forall_eq]); (try simp (disch := omega) [lk, AV.ids, idsL, idsLL, AV.ren, renL, renLL, i64w, *])))
   ·have hne : ((x : Int) != 0) = true := by simpa using hx0
    obtain ⟨k, m, hk⟩ := low_ex x (by omega)
    have hx2 : x < 2 ^ 64 := by rw [two64]; exact hx
    have hb := bitsW_low hk hx2
    have hcl := low_clear hk
    have hk64 := low_lt hk hx2
    have hdl := accW_len bs 65 hd
    have hcap : ((accW bs 65 d).length + 1) * 8 ≤ 140737488355328 := by omega
    have hsn := accW_snoc bs 65 d k
    have hx0' : 0 < x := by omega
    have hlt : x &&& (x - 1) < x := Nat.lt_of_le_of_lt Nat.and_le_right (by omega)
    have hd2 : (d ++ [k]) ++ bitsW (x &&& (x - 1)) = bitsW W := by rw [hcl, List.append_assoc, List.singleton_append, ← hb]; exact hd
    have hhd : tzN x = k := by unfold tzN; rw [hb]; rfl
    have hxi : (x : Int) < 18446744073709551616 := by omega
    have h0i : (0 : Int) < (x : Int) := by omega
    have hwm := u64_dec hx0' hx
    have hand := u64_and hx
    have hw1 : IntKind.i64.wrap (k : Int) = k := i64n k (by omega)
    have hw2 : IntKind.i64.wrap ((k : Int) + 1) = k + 1 := i64s k (by omega)
    have hw3 : IntKind.i64.wrap (64 + (k : Int)) = 64 + k := i64w (by omega) (by omega)
    have hw4 : IntKind.i64.wrap (64 + (k : Int) + 1) = 64 + k + 1 := i64w (by omega) (by omega)
    have hw5 : IntKind.i64.wrap 0 = 0 := rfl
    have hw6 : IntKind.i64.wrap 64 = 64 := rfl
    clear hk hx2 hb hcl hnx hbs
    refine amStr (h := ?_)
    refine s_regionL ?_
    ((iterate 7 (((with_reducible refine spl_step TT_ok PTz_ok (id := 0) (σ' := ?_) ?_ ?_); rotate_left; (focus (simp [*]; rfl))))))
    refine hY _ _ _ _ _ _ _ _ [.v (.int .i64 (64 + (k : Int) + 1))] rfl rfl rfl rfl rfl rfl fun B5 hI5 hro5 => ?_
    simp only [setps, st]
    refine amStr (h := ?_)
    refine amReg PTz_ok (h := ?_)
    refine ⟨rfl, fun B6 hI6 hro6 => ?_⟩
    refine amStr (h := ?_)
    refine s_regionL ?_
    ((iterate 2 (((with_reducible refine spl_step TT_ok PTz_ok (id := 0) (σ' := ?_) ?_ ?_); rotate_left; (focus (simp [*]; rfl))))))
    (((with_reducible refine spl_step TT_ok PTz_ok (id := 6) (σ' := ?_) ?_ ?_); rotate_left; (focus (simp [*]; rfl))))
    (((with_reducible refine spl_step TT_ok PTz_ok (id := 7) (σ' := ?_) ?_ ?_); rotate_left; (focus (simp [*]; rfl))))
    ((iterate 1 (((with_reducible refine spl_step TT_ok PTz_ok (id := 0) (σ' := ?_) ?_ ?_); rotate_left; (focus (simp [*]; rfl))))))
    refine spl_nil ?_
    refine amStr (h := ?_)
    refine ⟨rfl, ?_⟩
    ((iterate 1 (((with_reducible refine spl_step TT_ok PTz_ok (id := 0) (σ' := ?_) ?_ ?_); rotate_left; (focus (simp [*]; rfl))))))
    refine spl_nil ?_
    refine amStr (h := ?_)
    refine amReg PTz_ok (h := ?_)
    refine amStr (h := ?_)
    refine ki_lp (⟨(d ++ [k], x &&& (x - 1)), hd2, Nat.lt_trans hlt hx⟩ : {p : List Nat × Nat // p.1 ++ bitsW p.2 = bitsW W ∧ p.2 < 18446744073709551616}) hlt ?_
    (refine weakI_of (fun q => if q = 5 then 7 else q) ⟨rfl, ?_, ?_, ?_⟩ ?_ <;> ((try simp only [List.mem_cons, List.not_mem_nil, or_false, forall_eq_or_imp, forall_eq]); (try simp (disch := omega) [lk, AV.ids, idsL, idsLL, AV.ren, renL, renLL, i64w, *])))
    all_goals omega
 ·obtain rfl : i = 2 := by omega
  have hfin : accS s 2 = listS s := rfl
  refine amStr (h := ?_)
  refine ⟨.inl rfl, .tup [], rfl, ?_⟩
  refine amStr (h := ?_)
  refine amReg PTz_ok (h := ?_)
  refine amStr (h := ?_)
  refine ⟨.inr rfl, .ref 5 0 (listS s).length, ?_, ?_⟩
  ·simp [retA, retL, ret1, lk]
  ((iterate 1 (((with_reducible refine spl_step TT_ok PTz_ok (id := 0) (σ' := ?_) ?_ ?_); rotate_left; (focus (simp [*]; rfl))))))
  refine spl_nil ?_
  refine amStr (h := ?_)
  refine ⟨.inr rfl, .ref 5 0 (listS s).length, ?_, ?_⟩
  ·simp [retA, retL, ret1, lk]
  ((iterate 1 (((with_reducible refine spl_step TT_ok PTz_ok (id := 0) (σ' := ?_) ?_ ?_); rotate_left; (focus (simp [*]; rfl))))))
  refine spl_nil ?_
  refine amStr (h := ?_)
  (refine amRt Tryd.results92 (h := ?_); try simp [*])
end Go.Proofs.YtecdhmiamlgibaaDoor
