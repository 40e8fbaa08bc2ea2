/- vars.First: the least variable of a set; no condition. -/
import Derived.Test.YtecdhmiamlgibaaDoorAm30
import Derived.Test.YtecdhmiamlgibaaDoorWl
import Derived.Test.YtecdhmiamlgibaaDoorVl
namespace Go.Proofs.YtecdhmiamlgibaaDoor
set_option linter.unusedVariables false
set_option linter.unusedSimpArgs false
set_option linter.unusedSectionVars false
open Go.RowKit
open Wlk
attribute [-simp] List.getD_eq_getElem?_getD
set_option maxRecDepth 100000
theorem first_lo {s : BitVec 128} {k : Nat} {r : List Nat} (h : bitsW (lo s).toNat = k :: r) : (listS s).headD 0 = (k : Int) + 1 := by
 unfold listS wVars
 rw [h]
 simp
 omega
theorem first_hi {s : BitVec 128} {k : Nat} {r : List Nat} (h0 : (lo s).toNat = 0) (h : bitsW (hi s).toNat = k :: r) : (listS s).headD 0 = 64 + (k : Int) + 1 := by
 unfold listS wVars
 rw [h0, bitsW_zero, h]
 simp
 omega
theorem first_no {s : BitVec 128} (h0 : (lo s).toNat = 0) (h1 : (hi s).toNat = 0) : (listS s).headD 0 = 0 := by
 unfold listS wVars
 rw [h0, h1, bitsW_zero]
 rfl
theorem first_l (s : BitVec 128) {W : Nat} (hW : (lo s).toNat = W) (hW0 : W ≠ 0) : FnPure Tryd.prog 68 [aSet s] (.v (.int .i64 ((listS s).headD 0))) := by
 have hWl : W < 18446744073709551616 := by rw [← hW]; exact (lo s).isLt
 obtain ⟨k, m, hk⟩ := low_ex W (by omega)
 have hb := bitsW_low hk (by rw [two64]; exact hWl)
 have hk64 := low_lt hk (by rw [two64]; exact hWl)
 have hhd : tzN W = k := by unfold tzN; rw [hb]; rfl
 have hf := first_lo (s := s) (by rw [hW]; exact hb)
 rw [hf]
 have hne : ((W : Int) != 0) = true := by simpa using hW0
 have hxi : (W : Int) < 18446744073709551616 := by omega
 have h0i : (0 : Int) < (W : Int) := by omega
 have hWp : 0 < W := by omega
 have hw1 : IntKind.i64.wrap (k : Int) = k := i64n k (by omega)
 have hw2 : IntKind.i64.wrap ((k : Int) + 1) = k + 1 := i64s k (by omega)
 have hw3 : IntKind.i64.wrap (64 + (k : Int)) = 64 + k := i64w (by omega) (by omega)
 have hw4 : IntKind.i64.wrap (64 + (k : Int) + 1) = 64 + k + 1 := i64w (by omega) (by omega)
 have hw5 : IntKind.i64.wrap 0 = 0 := rfl
 have hw6 : IntKind.i64.wrap 64 = 64 := rfl
 clear hk hb
 unfold aSet WV
 obtain ⟨V, hV⟩ : ∃ V, (hi s).toNat = V := ⟨_, rfl⟩
 rw [hW, hV]
 clear hW hV hf
 refine fn_sp TT_ok Tryd.func68 (c := _) rfl (by simp [Tryd.ntmps68]) (fun B hI0 hro => ?_)
 rw [Tryd.ntmps68]
 simp only [enumA]
 refine amStr (h := ?_)
 refine amReg PTz_ok (h := ?_)
 refine amStr (h := ?_)
 refine s_regionL ?_
 ((iterate 1 (((with_reducible refine spl_step TT_ok PTz_ok (id := 0) (σ' := ?_) ?_ ?_); rotate_left; (focus (simp [*]; rfl))))))
 refine spl_call TT_ok rfl rfl rfl (by kernel_rfl) Tryd.func95 rfl (avs := [.agg [.v (.int .u64 (W : Int)), .v (.int .u64 (V : Int))]]) (cs := []) rfl rfl (by simp [Tryd.ntmps95]) fun B1 hI1 hro1 => ?_
 rw [Tryd.ntmps95, Tryd.results95]
 simp only [enumA, List.append_nil]
 refine amGo PTz_ok (h := ?_)
 refine ⟨.inr rfl, .clo 115 [.ptr 2 0 0], ?_, ?_⟩
 ·simp [retA, retL, ret1, lk]
 refine spl_nil ?_
 refine amStr (h := ?_)
 (refine s_eq (τ := ?_) ?_ ?_; rotate_left; (focus ((try simp only [AS.frz, List.map_cons, List.map_nil]); (try simp [frzV, frzO, frzC, List.filter]); rfl)))
 refine s_rangeX TT_ok 4 (by simp) hro (f := 115) (cs := [.ptr 2 0 0]) rfl (by kernel_rfl) Tryd.func115 rfl (by simp [Tryd.ntmps115]) (by simp) fun B4 B5 hI4 hro4 hI5 hro5 hY => ?_
 rw [Tryd.ntmps115, Tryd.results115]
 simp only [enumA]
 refine spx_seq ?_
 refine amReg PTz_ok (h := ?_)
 refine ⟨rfl, ?_⟩
 refine spx_block ?_
 refine spx_loop1 ⟨26, [(0, .yld 4), (1, .ptr 2 0 0), (5, .agg [.v (.int .u64 (W : Int)), .v (.int .u64 (V : Int))]), (6, .v (.int .i64 0))], [(0, ⟨27, 2, [[.v (.int .u64 (W : Int)), .v (.int .u64 (V : Int))]]⟩), (1, ⟨3, 1, [[.v (.int .i64 0)]]⟩), (2, ⟨27, 2, [[.v (.int .u64 (W : Int)), .v (.int .u64 (V : Int))]]⟩)], [4, 2, 1, 0]⟩ ?_ ?_
 ·rw [hI4]
  (refine weakI_of (fun q => q) ⟨rfl, ?_, ?_, ?_⟩ ?_ <;> ((try simp only [List.mem_cons, List.not_mem_nil, or_false, forall_eq_or_imp, forall_eq]); (try simp (disch := omega) [lk, AV.ids, idsL, idsLL, AV.ren, renL, renLL, i64w, *])))
 refine spx_seq ?_
 refine amReg PTz_ok (h := ?_)
 refine ⟨rfl, ?_⟩
 refine spx_seq ?_
 refine amStr (h := ?_)
 refine ⟨rfl, ?_⟩
 refine spx_seqR ?_
 refine spx_block ?_
 refine spx_seq ?_
 refine amReg PTz_ok (h := ?_)
 refine ⟨rfl, ?_⟩
 refine spx_block ?_
 refine spx_loop1 ⟨26, [(0, .yld 4), (1, .ptr 2 0 0), (3, .v (.int .i64 0)), (4, .v (.int .u64 (W : Int))), (5, .agg [.v (.int .u64 (W : Int)), .v (.int .u64 (V : Int))]), (6, .v (.int .i64 0))], [(0, ⟨27, 2, [[.v (.int .u64 (W : Int)), .v (.int .u64 (V : Int))]]⟩), (1, ⟨3, 1, [[.v (.int .i64 0)]]⟩), (2, ⟨27, 2, [[.v (.int .u64 (W : Int)), .v (.int .u64 (V : Int))]]⟩)], [4, 2, 1, 0]⟩ ?_ ?_
 ·rw [hI4]
  (refine weakI_of (fun q => q) ⟨rfl, ?_, ?_, ?_⟩ ?_ <;> ((try simp only [List.mem_cons, List.not_mem_nil, or_false, forall_eq_or_imp, forall_eq]); (try simp (disch := omega) [lk, AV.ids, idsL, idsLL, AV.ren, renL, renLL, i64w, *])))
 refine spx_seq ?_
 refine amStr (h := ?_)
 refine amReg PTz_ok (h := ?_)
 refine amStr (h := ?_)
 refine ⟨rfl, ?_⟩
 refine spx_block ?_
 refine spx_seqR ?_
 refine spx_seq2 (hro5.trans hro4.symm) ?_
 refine spx_region ?_
 iterate 7 (refine splx_step TT_ok PTz_ok (id := 0) (σ' := ?_) ?_ ?_; rotate_left; (focus (simp [*]; rfl)))
 refine hY _ _ _ _ _ _ _ _ [.v (.int .i64 ((k : Int) + 1))] rfl rfl rfl rfl rfl rfl fun B6 hI6 hro6 => ?_
 simp only [setps, st]
 refine amStr (h := ?_)
 refine amReg PTz_ok (h := ?_)
 refine ⟨rfl, fun B7 hI7 hro7 => ?_⟩
 refine amStr (h := ?_)
 refine amReg PTz_ok (h := ?_)
 refine amStr (h := ?_)
 refine ⟨rfl, ?_⟩
 ((iterate 1 (((with_reducible refine spl_step TT_ok PTz_ok (id := 0) (σ' := ?_) ?_ ?_); rotate_left; (focus (simp [*]; rfl))))))
 refine spl_nil ?_
 dsimp only
 refine amStr (h := ?_)
 refine ⟨rfl, ?_⟩
 simp only [true_and, or_true]
 refine ⟨_, rfl, ?_⟩
 refine amStr (h := ?_)
 (refine amRt Tryd.results68 (h := ?_); try simp [*])
theorem first_h (s : BitVec 128) {W : Nat} (hl : (lo s).toNat = 0) (hW : (hi s).toNat = W) (hW0 : W ≠ 0) : FnPure Tryd.prog 68 [aSet s] (.v (.int .i64 ((listS s).headD 0))) := by
 have hWl : W < 18446744073709551616 := by rw [← hW]; exact (hi s).isLt
 obtain ⟨k, m, hk⟩ := low_ex W (by omega)
 have hb := bitsW_low hk (by rw [two64]; exact hWl)
 have hk64 := low_lt hk (by rw [two64]; exact hWl)
 have hhd : tzN W = k := by unfold tzN; rw [hb]; rfl
 have hf := first_hi (s := s) hl (by rw [hW]; exact hb)
 rw [hf]
 have hne : ((W : Int) != 0) = true := by simpa using hW0
 have hxi : (W : Int) < 18446744073709551616 := by omega
 have h0i : (0 : Int) < (W : Int) := by omega
 have hWp : 0 < W := by omega
 have hw1 : IntKind.i64.wrap (k : Int) = k := i64n k (by omega)
 have hw2 : IntKind.i64.wrap ((k : Int) + 1) = k + 1 := i64s k (by omega)
 have hw3 : IntKind.i64.wrap (64 + (k : Int)) = 64 + k := i64w (by omega) (by omega)
 have hw4 : IntKind.i64.wrap (64 + (k : Int) + 1) = 64 + k + 1 := i64w (by omega) (by omega)
 have hw5 : IntKind.i64.wrap 0 = 0 := rfl
 have hw6 : IntKind.i64.wrap 64 = 64 := rfl
 clear hk hb
 unfold aSet WV
 rw [hl, hW]
 clear hl hW hf
 simp only [Int.natCast_zero]
 refine fn_sp TT_ok Tryd.func68 (c := _) rfl (by simp [Tryd.ntmps68]) (fun B hI0 hro => ?_)
 rw [Tryd.ntmps68]
 simp only [enumA]
 refine amStr (h := ?_)
 refine amReg PTz_ok (h := ?_)
 refine amStr (h := ?_)
 refine s_regionL ?_
 ((iterate 1 (((with_reducible refine spl_step TT_ok PTz_ok (id := 0) (σ' := ?_) ?_ ?_); rotate_left; (focus (simp [*]; rfl))))))
 refine spl_call TT_ok rfl rfl rfl (by kernel_rfl) Tryd.func95 rfl (avs := [.agg [.v (.int .u64 0), .v (.int .u64 (W : Int))]]) (cs := []) rfl rfl (by simp [Tryd.ntmps95]) fun B1 hI1 hro1 => ?_
 rw [Tryd.ntmps95, Tryd.results95]
 simp only [enumA, List.append_nil]
 refine amGo PTz_ok (h := ?_)
 refine ⟨.inr rfl, .clo 115 [.ptr 2 0 0], ?_, ?_⟩
 ·simp [retA, retL, ret1, lk]
 refine spl_nil ?_
 refine amStr (h := ?_)
 (refine s_eq (τ := ?_) ?_ ?_; rotate_left; (focus ((try simp only [AS.frz, List.map_cons, List.map_nil]); (try simp [frzV, frzO, frzC, List.filter]); rfl)))
 refine s_rangeX TT_ok 4 (by simp) hro (f := 115) (cs := [.ptr 2 0 0]) rfl (by kernel_rfl) Tryd.func115 rfl (by simp [Tryd.ntmps115]) (by simp) fun B4 B5 hI4 hro4 hI5 hro5 hY => ?_
 rw [Tryd.ntmps115, Tryd.results115]
 simp only [enumA]
 refine spx_seq ?_
 refine amReg PTz_ok (h := ?_)
 refine ⟨rfl, ?_⟩
 refine spx_block ?_
 refine spx_loop (fun i : {i : Nat // i ≤ 1} => ⟨26, [(0, .yld 4), (1, .ptr 2 0 0), (5, .agg [.v (.int .u64 0), .v (.int .u64 (W : Int))]), (6, .v (.int .i64 (i.1 : Int)))], [(0, ⟨27, 2, [[.v (.int .u64 0), .v (.int .u64 (W : Int))]]⟩), (1, ⟨3, 1, [[.v (.int .i64 0)]]⟩), (2, ⟨27, 2, [[.v (.int .u64 0), .v (.int .u64 (W : Int))]]⟩)], [4, 2, 1, 0]⟩) (fun i => 1 - i.1) ⟨0, by omega⟩ ?_ (fun ⟨i, hie⟩ => ?_)
 ·rw [hI4]
  (refine weakI_of (fun q => q) ⟨rfl, ?_, ?_, ?_⟩ ?_ <;> ((try simp only [List.mem_cons, List.not_mem_nil, or_false, forall_eq_or_imp, forall_eq]); (try simp (disch := omega) [lk, AV.ids, idsL, idsLL, AV.ren, renL, renLL, i64w, *])))
 rcases (by omega : i = 0 ∨ i = 1) with rfl | rfl
 ·left
  refine amStr (h := ?_)
  refine amReg PTz_ok (h := ?_)
  refine amStr (h := ?_)
  refine amReg PTz_ok (h := ?_)
  refine amStr (h := ?_)
  refine s_loopI hI4 (J := fun _ : Unit => ⟨26, [(0, .yld 4), (1, .ptr 2 0 0), (3, .v (.int .i64 0)), (4, .v (.int .u64 0)), (5, .agg [.v (.int .u64 0), .v (.int .u64 (W : Int))]), (6, .v (.int .i64 0))], [(0, ⟨27, 2, [[.v (.int .u64 0), .v (.int .u64 (W : Int))]]⟩), (1, ⟨3, 1, [[.v (.int .i64 0)]]⟩), (2, ⟨27, 2, [[.v (.int .u64 0), .v (.int .u64 (W : Int))]]⟩)], [4, 2, 1, 0]⟩) (μ := fun _ => 0) () ?_ (fun _ => ?_)
  ·(refine weakI_of (fun q => q) ⟨rfl, ?_, ?_, ?_⟩ ?_ <;> ((try simp only [List.mem_cons, List.not_mem_nil, or_false, forall_eq_or_imp, forall_eq]); (try simp (disch := omega) [lk, AV.ids, idsL, idsLL, AV.ren, renL, renLL, i64w, *])))
  refine amStr (h := ?_)
  refine amReg PTz_ok (h := ?_)
  refine amStr (h := ?_)
  refine amReg PTz_ok (h := ?_)
  refine ⟨rfl, ⟨1, by omega⟩, by dsimp only; omega, ?_⟩
  rw [hI4]
  (refine weakI_of (fun q => q) ⟨rfl, ?_, ?_, ?_⟩ ?_ <;> ((try simp only [List.mem_cons, List.not_mem_nil, or_false, forall_eq_or_imp, forall_eq]); (try simp (disch := omega) [lk, AV.ids, idsL, idsLL, AV.ren, renL, renLL, i64w, *])))
 ·right
  refine spx_seq ?_
  refine amReg PTz_ok (h := ?_)
  refine ⟨rfl, ?_⟩
  refine spx_seq ?_
  refine amStr (h := ?_)
  refine ⟨rfl, ?_⟩
  refine spx_seqR ?_
  refine spx_block ?_
  refine spx_seq ?_
  refine amReg PTz_ok (h := ?_)
  refine ⟨rfl, ?_⟩
  refine spx_block ?_
  refine spx_loop1 ⟨26, [(0, .yld 4), (1, .ptr 2 0 0), (3, .v (.int .i64 1)), (4, .v (.int .u64 (W : Int))), (5, .agg [.v (.int .u64 0), .v (.int .u64 (W : Int))]), (6, .v (.int .i64 1))], [(0, ⟨27, 2, [[.v (.int .u64 0), .v (.int .u64 (W : Int))]]⟩), (1, ⟨3, 1, [[.v (.int .i64 0)]]⟩), (2, ⟨27, 2, [[.v (.int .u64 0), .v (.int .u64 (W : Int))]]⟩)], [4, 2, 1, 0]⟩ ?_ ?_
  ·rw [hI4]
   (refine weakI_of (fun q => q) ⟨rfl, ?_, ?_, ?_⟩ ?_ <;> ((try simp only [List.mem_cons, List.not_mem_nil, or_false, forall_eq_or_imp, forall_eq]); (try simp (disch := omega) [lk, AV.ids, idsL, idsLL, AV.ren, renL, renLL, i64w, *])))
  refine spx_seq ?_
  refine amStr (h := ?_)
  refine amReg PTz_ok (h := ?_)
  refine amStr (h := ?_)
  refine ⟨rfl, ?_⟩
  refine spx_block ?_
  refine spx_seqR ?_
  refine spx_seq2 (hro5.trans hro4.symm) ?_
  refine spx_region ?_
  iterate 7 (refine splx_step TT_ok PTz_ok (id := 0) (σ' := ?_) ?_ ?_; rotate_left; (focus (simp [*]; rfl)))
  refine hY _ _ _ _ _ _ _ _ [.v (.int .i64 (64 + (k : Int) + 1))] rfl rfl rfl rfl rfl rfl fun B6 hI6 hro6 => ?_
  simp only [setps, st]
  refine amStr (h := ?_)
  refine amReg PTz_ok (h := ?_)
  refine ⟨rfl, fun B7 hI7 hro7 => ?_⟩
  refine amStr (h := ?_)
  refine amReg PTz_ok (h := ?_)
  refine amStr (h := ?_)
  refine ⟨rfl, ?_⟩
  ((iterate 1 (((with_reducible refine spl_step TT_ok PTz_ok (id := 0) (σ' := ?_) ?_ ?_); rotate_left; (focus (simp [*]; rfl))))))
  refine spl_nil ?_
  dsimp only
  refine amStr (h := ?_)
  refine ⟨rfl, ?_⟩
  simp only [true_and, or_true]
  refine ⟨_, rfl, ?_⟩
  refine amStr (h := ?_)
  (refine amRt Tryd.results68 (h := ?_); try simp [*])
theorem first_z (s : BitVec 128) (hl : (lo s).toNat = 0) (hh : (hi s).toNat = 0) : FnPure Tryd.prog 68 [aSet s] (.v (.int .i64 ((listS s).headD 0))) := by
 have hf := first_no hl hh
 rw [hf]
 unfold aSet WV
 rw [hl, hh]
 clear hl hh hf
 simp only [Int.natCast_zero]
 refine fn_sp TT_ok Tryd.func68 (c := _) rfl (by simp [Tryd.ntmps68]) (fun B hI0 hro => ?_)
 rw [Tryd.ntmps68]
 simp only [enumA]
 refine amStr (h := ?_)
 refine amReg PTz_ok (h := ?_)
 refine amStr (h := ?_)
 refine s_regionL ?_
 ((iterate 1 (((with_reducible refine spl_step TT_ok PTz_ok (id := 0) (σ' := ?_) ?_ ?_); rotate_left; (focus (simp [*]; rfl))))))
 refine spl_call TT_ok rfl rfl rfl (by kernel_rfl) Tryd.func95 rfl (avs := [.agg [.v (.int .u64 0), .v (.int .u64 0)]]) (cs := []) rfl rfl (by simp [Tryd.ntmps95]) fun B1 hI1 hro1 => ?_
 rw [Tryd.ntmps95, Tryd.results95]
 simp only [enumA, List.append_nil]
 refine amGo PTz_ok (h := ?_)
 refine ⟨.inr rfl, .clo 115 [.ptr 2 0 0], ?_, ?_⟩
 ·simp [retA, retL, ret1, lk]
 refine spl_nil ?_
 refine amStr (h := ?_)
 (refine s_eq (τ := ?_) ?_ ?_; rotate_left; (focus ((try simp only [AS.frz, List.map_cons, List.map_nil]); (try simp [frzV, frzO, frzC, List.filter]); rfl)))
 refine s_range TT_ok 4 (by simp) hro (f := 115) (cs := [.ptr 2 0 0]) rfl (by kernel_rfl) Tryd.func115 rfl (by simp [Tryd.ntmps115]) (by simp) fun B4 hI4 hro4 hY => ?_
 rw [Tryd.ntmps115, Tryd.results115]
 simp only [enumA]
 refine amStr (h := ?_)
 refine amReg PTz_ok (h := ?_)
 refine amStr (h := ?_)
 refine s_loopI hI4 (J := fun i : {k : Nat // k ≤ 2} => ⟨26, [(0, .yld 4), (1, .ptr 2 0 0), (5, .agg [.v (.int .u64 0), .v (.int .u64 0)]), (6, .v (.int .i64 (i.1 : Int)))], [(0, ⟨27, 2, [[.v (.int .u64 0), .v (.int .u64 0)]]⟩), (1, ⟨3, 1, [[.v (.int .i64 0)]]⟩), (2, ⟨27, 2, [[.v (.int .u64 0), .v (.int .u64 0)]]⟩)], [4, 2, 1, 0]⟩) (μ := fun i => 2 - i.1) ⟨0, Nat.zero_le _⟩ ?_ (fun ⟨i, hie⟩ => ?_)
 ·(refine weakI_of (fun q => q) ⟨rfl, ?_, ?_, ?_⟩ ?_ <;> ((try simp only [List.mem_cons, List.not_mem_nil, or_false, forall_eq_or_imp, forall_eq]); (try simp (disch := omega) [lk, AV.ids, idsL, idsLL, AV.ren, renL, renLL, i64w, *])))
 rcases (by omega : i = 0 ∨ i = 1 ∨ i = 2) with rfl | rfl | rfl
 ·refine amStr (h := ?_)
  refine amReg PTz_ok (h := ?_)
  refine amStr (h := ?_)
  refine amReg PTz_ok (h := ?_)
  refine amStr (h := ?_)
  refine s_loopI hI4 (J := fun _ : Unit => ⟨26, [(0, .yld 4), (1, .ptr 2 0 0), (3, .v (.int .i64 0)), (4, .v (.int .u64 0)), (5, .agg [.v (.int .u64 0), .v (.int .u64 0)]), (6, .v (.int .i64 0))], [(0, ⟨27, 2, [[.v (.int .u64 0), .v (.int .u64 0)]]⟩), (1, ⟨3, 1, [[.v (.int .i64 0)]]⟩), (2, ⟨27, 2, [[.v (.int .u64 0), .v (.int .u64 0)]]⟩)], [4, 2, 1, 0]⟩) (μ := fun _ => 0) () ?_ (fun _ => ?_)
  ·(refine weakI_of (fun q => q) ⟨rfl, ?_, ?_, ?_⟩ ?_ <;> ((try simp only [List.mem_cons, List.not_mem_nil, or_false, forall_eq_or_imp, forall_eq]); (try simp (disch := omega) [lk, AV.ids, idsL, idsLL, AV.ren, renL, renLL, i64w, *])))
  refine amStr (h := ?_)
  refine amReg PTz_ok (h := ?_)
  refine amStr (h := ?_)
  refine amReg PTz_ok (h := ?_)
  refine ki_lp (⟨1, by omega⟩ : {k : Nat // k ≤ 2}) (by dsimp only; omega) ?_
  (refine weakI_of (fun q => q) ⟨rfl, ?_, ?_, ?_⟩ ?_ <;> ((try simp only [List.mem_cons, List.not_mem_nil, or_false, forall_eq_or_imp, forall_eq]); (try simp (disch := omega) [lk, AV.ids, idsL, idsLL, AV.ren, renL, renLL, i64w, *])))
 ·refine amStr (h := ?_)
  refine amReg PTz_ok (h := ?_)
  refine amStr (h := ?_)
  refine amReg PTz_ok (h := ?_)
  refine amStr (h := ?_)
  refine s_loopI hI4 (J := fun _ : Unit => ⟨26, [(0, .yld 4), (1, .ptr 2 0 0), (3, .v (.int .i64 1)), (4, .v (.int .u64 0)), (5, .agg [.v (.int .u64 0), .v (.int .u64 0)]), (6, .v (.int .i64 1))], [(0, ⟨27, 2, [[.v (.int .u64 0), .v (.int .u64 0)]]⟩), (1, ⟨3, 1, [[.v (.int .i64 0)]]⟩), (2, ⟨27, 2, [[.v (.int .u64 0), .v (.int .u64 0)]]⟩)], [4, 2, 1, 0]⟩) (μ := fun _ => 0) () ?_ (fun _ => ?_)
  ·(refine weakI_of (fun q => q) ⟨rfl, ?_, ?_, ?_⟩ ?_ <;> ((try simp only [List.mem_cons, List.not_mem_nil, or_false, forall_eq_or_imp, forall_eq]); (try simp (disch := omega) [lk, AV.ids, idsL, idsLL, AV.ren, renL, renLL, i64w, *])))
  refine amStr (h := ?_)
  refine amReg PTz_ok (h := ?_)
  refine amStr (h := ?_)
  refine amReg PTz_ok (h := ?_)
  refine ki_lp (⟨2, by omega⟩ : {k : Nat // k ≤ 2}) (by dsimp only; omega) ?_
  (refine weakI_of (fun q => q) ⟨rfl, ?_, ?_, ?_⟩ ?_ <;> ((try simp only [List.mem_cons, List.not_mem_nil, or_false, forall_eq_or_imp, forall_eq]); (try simp (disch := omega) [lk, AV.ids, idsL, idsLL, AV.ren, renL, renLL, i64w, *])))
 ·refine amStr (h := ?_)
  refine amReg PTz_ok (h := ?_)
  refine amStr (h := ?_)
  refine ⟨.inl rfl, _, rfl, ?_⟩
  refine amStr (h := ?_)
  refine amReg PTz_ok (h := ?_)
  refine amStr (h := ?_)
  (refine amRt Tryd.results68 (h := ?_); try simp [*])
theorem vFirst_p (s : BitVec 128) : FnPure Tryd.prog 68 [aSet s] (.v (.int .i64 ((listS s).headD 0))) := by
 by_cases h0 : (lo s).toNat = 0
 ·by_cases h1 : (hi s).toNat = 0
  ·exact first_z s h0 h1
  ·exact first_h s h0 rfl h1
 ·exact first_l s rfl h0
end Go.Proofs.YtecdhmiamlgibaaDoor
