/- Contracts of slices.Concat (two lists of lists), theory.Join and censusref05.Join, by the abstract machine; no condition. -/
import Derived.Test.YtkollnaojpppcaaNil
import Derived.Test.YtkollnaojpppcaaThG
import Derived.Test.YtkollnaojpppcaaAs
namespace Go.Proofs.Ytkollnaojpppcaa
set_option linter.unusedVariables false
set_option linter.unusedSimpArgs false
set_option linter.unusedSectionVars false
open Go.RowKit
attribute [local simp] List.getD_cons_zero List.getD_cons_succ List.getD_nil undef gvars runL runE effA stepA dstOk wantA core lk st dl AS.ev AS.evs AS.put AS.upd updO updI nxt cPick cAlloc cBox cBuild cBuildS cLoad cStore cNil plainOf cBin cNilS isNilS nilA cUn cConvX cConvB cConv bytesOf rowB cMake cSlice slA idxA cFA cF cIA cIX cIS cI cExt cLen cApp cMM cFun cCall lenA lenM isNilM nilM cNilM cMakeM hintB cMapK cLook foundR lookR cUpd putM cDel delM findA isKeyB Instr.sameNow AS.entry AS.bound AS.callee sc1 sc2 ixOk ldA AV.flat AV.cell AV.cells Value.oneCell' fillA spl chunk zeros AS.parts AS.rows AS.shut AS.shut1 AS.shut2 AS.shutL AS.shutM AV.ids idsL idsLL eqAll bndA AV.scalar AV.scalar1 AV.isV Ef.app Ef.pk ptOf pntO wrO wr
attribute [-simp] List.getD_eq_getElem?_getD
set_option maxRecDepth 100000
section
variable {P : Program} {σ : AS} {B : Base} {Q : Exit → AS → Prop} {ops : Array Oper}
/-- Some objects are no longer written, within a region. -/
theorem spl_frz {r : List Oper} (D : Nat → Bool) (k : SPL P B ops r (σ.frz D) Q) : SPL P B ops r σ Q := fun D' G w a hr => k D' _ w a (hr.frz D)
theorem spl_eq {τ : AS} {r : List Oper} (h : σ = τ) (k : SPL P B ops r τ Q) : SPL P B ops r σ Q := h ▸ k
theorem spl_coreX {TT : TTab} (hTT : TTok P TT) {id : Nat} {o : Oper} {r : List Oper} {s : Res} (hd : dstOk σ o = true) (hw : wantA σ ops o = some true) (h : coreX TT σ id o = some s) (k : SPL P B ops r ((σ.upd s.2).put o.dst s.1) Q) : SPL P B ops (o :: r) σ Q := spl_op hd hw (coreX_ok hTT h).1 k (coreX_ok hTT h).2
end
@[simp ↓ high] theorem d_rows_mk (σ : AS) (t : TypeId) (xs : List (List AV)) (L : List (List Int)) : σ.rows (AObj.mk t 1 xs).sz (aRows L) = some (L.map fun xs => [aInts xs]) := rfl
@[simp ↓ high] theorem d_rows_mki (σ : AS) (t : TypeId) (xs : List (List AV)) (L : List Int) : σ.rows (AObj.mk t 1 xs).sz (aInts L) = some (L.map fun x => [.v (.int .i64 x)]) := rfl
theorem ids_rep (x : Value) : ∀ n, idsLL (List.replicate n [AV.v x]) = []
  | 0 => rfl
  | n + 1 => by rw [List.replicate_succ, idsLL, ids_rep x n]; rfl
/-- Rows of clauses. -/
def rowsA (L : List (List Int)) : List (List AV) := L.map fun xs => [aInts xs]
theorem spl_rep {α : Type} (pre ys : List α) (z : α) (m : Nat) (h : ys.length ≤ m) : spl (pre ++ List.replicate m z) pre.length ys = pre ++ ys ++ List.replicate (m - ys.length) z := by
  simp [spl, List.append_assoc]
/-- The first k of two numbers, added. -/
def sz2 (a n k : Nat) : Nat := if k = 0 then 0 else if k = 1 then a else n
/-- What lies in the new array when the first k lists have been copied. -/
def catK (A B : List (List Int)) (k : Nat) : List (List AV) :=
  if k = 0 then List.replicate (A.length + B.length) [.v (.slice none 0 0)] else if k = 1 then rowsA A ++ List.replicate B.length [.v (.slice none 0 0)] else rowsA (A ++ B)
theorem catK_len (A B : List (List Int)) (k : Nat) : (catK A B k).length = A.length + B.length := by
  unfold catK rowsA
  split
  · simp
  · split <;> simp
theorem catK_1 (A B : List (List Int)) : spl (catK A B 0) 0 (A.map fun xs => [aInts xs]) = catK A B 1 := by
  have := spl_rep [] (A.map fun xs => [aInts xs]) [AV.v (.slice none 0 0)] (A.length + B.length) (by simp)
  simp only [List.nil_append, List.length_nil, List.length_map, Nat.add_sub_cancel_left] at this
  exact this
theorem catK_2 (A B : List (List Int)) : spl (catK A B 1) A.length (B.map fun xs => [aInts xs]) = catK A B 2 := by
  have := spl_rep (A.map fun xs => [aInts xs]) (B.map fun xs => [aInts xs]) [AV.v (.slice none 0 0)] B.length (by simp)
  simp only [List.length_map, Nat.sub_self, List.replicate_zero, List.append_nil] at this
  unfold catK rowsA
  rw [if_neg (by decide), if_pos rfl, if_neg (by decide), if_neg (by decide), List.map_append]
  exact this
theorem catK_1' (A C : List (List Int)) : (A.map fun xs => [aInts xs]) ++ (catK A C 0).drop A.length = catK A C 1 := by
  have := catK_1 A C
  simpa [spl] using this
theorem catK_2' (A C : List (List Int)) : (catK A C 1).take A.length ++ ((C.map fun xs => [aInts xs]) ++ (catK A C 1).drop (A.length + C.length)) = catK A C 2 := by
  have := catK_2 A C
  simpa [spl] using this
theorem catK_ids (A C : List (List Int)) (k : Nat) : idsLL (catK A C k) = [] := by
  unfold catK rowsA
  split
  · exact ids_rep _ _
  · split
    · rw [idsLL_append, idsLL_rows, ids_rep]; rfl
    · exact idsLL_rows _
theorem concat_p (A C : List (List Int)) (hs : A.length + C.length ≤ 4096) : FnPure Try.prog 57 [.sl 1 [[aRows A], [aRows C]]] (aRows (A ++ C)) := by
  obtain ⟨n, hn⟩ : ∃ n, A.length + C.length = n := ⟨_, rfl⟩
  have w0 : IntKind.i64.wrap 0 = 0 := rfl
  have w1 : IntKind.i64.wrap (A.length : Int) = A.length := i64w (by omega) (by omega)
  have w2 : IntKind.i64.wrap ((A.length : Int) + C.length) = n := by rw [i64w (by omega) (by omega)]; omega
  have w3 : IntKind.i64.wrap (n : Int) = n := i64w (by omega) (by omega)
  have n1 : ¬ (A.length : Int) < 0 := by omega
  have n2 : ¬ (n : Int) < 0 := by omega
  refine fn_sp TT_ok Try.func57 (c := _) rfl (by simp [Try.ntmps57]) (fun B hI0 hro => ?_)
  rw [Try.ntmps57]
  simp only [enumA]
  repeat (first | with_reducible first | refine s_seq ?_ | refine k_seq ?_ | refine k_seq_ret ?_ | refine k_seq_exit ?_ | refine k_blk ?_ | refine k_blk_ret ?_ | refine k_blk_exit ?_ | refine k_lp_ret ?_ | refine k_lp_exit ?_ | refine ki_lp_ret ?_ | refine ki_lp_exit ?_ | refine s_block ?_ | refine sp_skip ?_ | refine sp_ret ?_ | refine sp_exit ?_ | ((with_reducible refine k_blk_out ?_ ?_); (focus decide)) | ((with_reducible refine s_cond_t ?_ ?_); (focus (simp [*]; done))) | ((with_reducible refine s_cond_f ?_ ?_); (focus (simp [*]; done))) | (focus ((with_reducible refine s_region2 (q := ?_) (σ' := ?_) TT_ok PT15_ok ?_ ?_ ?_); rotate_left 2; (focus (first | (simp; exact Eq.refl _) | exact Eq.refl _)); (focus ((repeat (((with_reducible refine runL_cons (σ1 := ?_) ?_ ?_); rotate_left; (focus (simp [*]; rfl))))); (exact runL_nil))))) | (focus ((with_reducible refine s_draw2 (q := ?_) (es := ?_) (σ' := ?_) prog_mixed TT_ok PT15_ok ?_ ?_ ?_ ?_); rotate_left 3; (focus (first | (simp; exact Eq.refl _) | exact Eq.refl _)); (focus ((repeat (((with_reducible refine runE_cons (e := ?_) (σ1 := ?_) (es := ?_) ?_ ?_ ?_); rotate_left 3; (focus (simp [*]; exact Eq.refl _)); (focus (simp; exact Eq.refl _))))); (exact runE_nil))); (focus (first | kernel_rfl | decide)))))
  refine s_loop (J := fun i : {k : Nat // k ≤ 2} => ⟨36, [(0, .sl 1 [[aRows A], [aRows C]]), (2, .v (.slice none 0 0)), (3, .v (.int .i64 (sz2 A.length n i.1 : Nat))), (9, .sl 1 [[aRows A], [aRows C]]), (10, .v (.int .i64 2)), (11, .v (.int .i64 (i.1 : Int)))], [], []⟩) (μ := fun i => 2 - i.1) ⟨0, by omega⟩ ?_ (fun ⟨k, hk⟩ => ?_)
  · (refine weak_id rfl ?_ ?_ <;> ((try simp only [List.mem_cons, List.not_mem_nil, or_false, forall_eq_or_imp, forall_eq]); (try simp (disch := omega) [i64w, *])))
    all_goals rfl
  repeat (first | with_reducible first | refine s_seq ?_ | refine k_seq ?_ | refine k_seq_ret ?_ | refine k_seq_exit ?_ | refine k_blk ?_ | refine k_blk_ret ?_ | refine k_blk_exit ?_ | refine k_lp_ret ?_ | refine k_lp_exit ?_ | refine ki_lp_ret ?_ | refine ki_lp_exit ?_ | refine s_block ?_ | refine sp_skip ?_ | refine sp_ret ?_ | refine sp_exit ?_ | ((with_reducible refine k_blk_out ?_ ?_); (focus decide)) | ((with_reducible refine s_cond_t ?_ ?_); (focus (simp [*]; done))) | ((with_reducible refine s_cond_f ?_ ?_); (focus (simp [*]; done))) | (focus ((with_reducible refine s_region2 (q := ?_) (σ' := ?_) TT_ok PT15_ok ?_ ?_ ?_); rotate_left 2; (focus (first | (simp; exact Eq.refl _) | exact Eq.refl _)); (focus ((repeat (((with_reducible refine runL_cons (σ1 := ?_) ?_ ?_); rotate_left; (focus (simp [*]; rfl))))); (exact runL_nil))))) | (focus ((with_reducible refine s_draw2 (q := ?_) (es := ?_) (σ' := ?_) prog_mixed TT_ok PT15_ok ?_ ?_ ?_ ?_); rotate_left 3; (focus (first | (simp; exact Eq.refl _) | exact Eq.refl _)); (focus ((repeat (((with_reducible refine runE_cons (e := ?_) (σ1 := ?_) (es := ?_) ?_ ?_ ?_); rotate_left 3; (focus (simp [*]; exact Eq.refl _)); (focus (simp; exact Eq.refl _))))); (exact runE_nil))); (focus (first | kernel_rfl | decide)))))
  (focus ((with_reducible refine sp_cond (b := ?_) ?_ (fun hc => ?_) (fun hc => ?_)); rotate_left; (focus (first | rfl | (simp [lk, AS.ev]; rfl))); all_goals (try simp at hc)))
  · rcases (by omega : k = 0 ∨ k = 1) with rfl | rfl
    · have e0 : sz2 A.length n 0 = 0 := rfl
      have e1 : sz2 A.length n 1 = A.length := rfl
      repeat (first | with_reducible first | refine s_seq ?_ | refine k_seq ?_ | refine k_seq_ret ?_ | refine k_seq_exit ?_ | refine k_blk ?_ | refine k_blk_ret ?_ | refine k_blk_exit ?_ | refine k_lp_ret ?_ | refine k_lp_exit ?_ | refine ki_lp_ret ?_ | refine ki_lp_exit ?_ | refine s_block ?_ | refine sp_skip ?_ | refine sp_ret ?_ | refine sp_exit ?_ | ((with_reducible refine k_blk_out ?_ ?_); (focus decide)) | ((with_reducible refine s_cond_t ?_ ?_); (focus (simp [*]; done))) | ((with_reducible refine s_cond_f ?_ ?_); (focus (simp [*]; done))) | (focus ((with_reducible refine s_region2 (q := ?_) (σ' := ?_) TT_ok PT15_ok ?_ ?_ ?_); rotate_left 2; (focus (first | (simp; exact Eq.refl _) | exact Eq.refl _)); (focus ((repeat (((with_reducible refine runL_cons (σ1 := ?_) ?_ ?_); rotate_left; (focus (simp [*]; rfl))))); (exact runL_nil))))) | (focus ((with_reducible refine s_draw2 (q := ?_) (es := ?_) (σ' := ?_) prog_mixed TT_ok PT15_ok ?_ ?_ ?_ ?_); rotate_left 3; (focus (first | (simp; exact Eq.refl _) | exact Eq.refl _)); (focus ((repeat (((with_reducible refine runE_cons (e := ?_) (σ1 := ?_) (es := ?_) ?_ ?_ ?_); rotate_left 3; (focus (simp [*]; exact Eq.refl _)); (focus (simp; exact Eq.refl _))))); (exact runE_nil))); (focus (first | kernel_rfl | decide)))))
      refine k_lp (⟨1, by omega⟩ : {k : Nat // k ≤ 2}) (by dsimp only; omega) ?_
      (refine weak_id rfl ?_ ?_ <;> ((try simp only [List.mem_cons, List.not_mem_nil, or_false, forall_eq_or_imp, forall_eq]); (try simp (disch := omega) [i64w, *])))
    · have e1 : sz2 A.length n 1 = A.length := rfl
      have e2 : sz2 A.length n 2 = n := rfl
      repeat (first | with_reducible first | refine s_seq ?_ | refine k_seq ?_ | refine k_seq_ret ?_ | refine k_seq_exit ?_ | refine k_blk ?_ | refine k_blk_ret ?_ | refine k_blk_exit ?_ | refine k_lp_ret ?_ | refine k_lp_exit ?_ | refine ki_lp_ret ?_ | refine ki_lp_exit ?_ | refine s_block ?_ | refine sp_skip ?_ | refine sp_ret ?_ | refine sp_exit ?_ | ((with_reducible refine k_blk_out ?_ ?_); (focus decide)) | ((with_reducible refine s_cond_t ?_ ?_); (focus (simp [*]; done))) | ((with_reducible refine s_cond_f ?_ ?_); (focus (simp [*]; done))) | (focus ((with_reducible refine s_region2 (q := ?_) (σ' := ?_) TT_ok PT15_ok ?_ ?_ ?_); rotate_left 2; (focus (first | (simp; exact Eq.refl _) | exact Eq.refl _)); (focus ((repeat (((with_reducible refine runL_cons (σ1 := ?_) ?_ ?_); rotate_left; (focus (simp [*]; rfl))))); (exact runL_nil))))) | (focus ((with_reducible refine s_draw2 (q := ?_) (es := ?_) (σ' := ?_) prog_mixed TT_ok PT15_ok ?_ ?_ ?_ ?_); rotate_left 3; (focus (first | (simp; exact Eq.refl _) | exact Eq.refl _)); (focus ((repeat (((with_reducible refine runE_cons (e := ?_) (σ1 := ?_) (es := ?_) ?_ ?_ ?_); rotate_left 3; (focus (simp [*]; exact Eq.refl _)); (focus (simp; exact Eq.refl _))))); (exact runE_nil))); (focus (first | kernel_rfl | decide)))))
      refine k_lp (⟨2, by omega⟩ : {k : Nat // k ≤ 2}) (by dsimp only; omega) ?_
      (refine weak_id rfl ?_ ?_ <;> ((try simp only [List.mem_cons, List.not_mem_nil, or_false, forall_eq_or_imp, forall_eq]); (try simp (disch := omega) [i64w, *])))
  · obtain rfl : k = 2 := by omega
    have e2 : sz2 A.length n 2 = n := rfl
    rw [e2]
    clear hc
    repeat (first | with_reducible first | refine s_seq ?_ | refine k_seq ?_ | refine k_seq_ret ?_ | refine k_seq_exit ?_ | refine k_blk ?_ | refine k_blk_ret ?_ | refine k_blk_exit ?_ | refine k_lp_ret ?_ | refine k_lp_exit ?_ | refine ki_lp_ret ?_ | refine ki_lp_exit ?_ | refine s_block ?_ | refine sp_skip ?_ | refine sp_ret ?_ | refine sp_exit ?_ | ((with_reducible refine k_blk_out ?_ ?_); (focus decide)) | ((with_reducible refine s_cond_t ?_ ?_); (focus (simp [*]; done))) | ((with_reducible refine s_cond_f ?_ ?_); (focus (simp [*]; done))) | (focus ((with_reducible refine s_region2 (q := ?_) (σ' := ?_) TT_ok PT15_ok ?_ ?_ ?_); rotate_left 2; (focus (first | (simp; exact Eq.refl _) | exact Eq.refl _)); (focus ((repeat (((with_reducible refine runL_cons (σ1 := ?_) ?_ ?_); rotate_left; (focus (simp [*]; rfl))))); (exact runL_nil))))) | (focus ((with_reducible refine s_draw2 (q := ?_) (es := ?_) (σ' := ?_) prog_mixed TT_ok PT15_ok ?_ ?_ ?_ ?_); rotate_left 3; (focus (first | (simp; exact Eq.refl _) | exact Eq.refl _)); (focus ((repeat (((with_reducible refine runE_cons (e := ?_) (σ1 := ?_) (es := ?_) ?_ ?_ ?_); rotate_left 3; (focus (simp [*]; exact Eq.refl _)); (focus (simp; exact Eq.refl _))))); (exact runE_nil))); (focus (first | kernel_rfl | decide)))))
    refine s_regionL ?_
    ((iterate 1 (((with_reducible refine spl_step TT_ok PT15_ok (id := 0) (σ' := ?_) ?_ ?_); rotate_left; (focus (simp [*]; rfl))))))
    refine spl_call TT_ok rfl rfl rfl (by kernel_rfl) Try.func74 rfl (avs := [.v (.slice none 0 0), .v (.int .i64 (n : Int))]) (cs := []) rfl rfl (by simp [Try.ntmps74]) fun B' hI' hro' => ?_
    rw [Try.ntmps74, Try.results74]
    simp only [enumA, List.append_nil]
    repeat (first | with_reducible first | refine s_seq ?_ | refine k_seq ?_ | refine k_seq_ret ?_ | refine k_seq_exit ?_ | refine k_blk ?_ | refine k_blk_ret ?_ | refine k_blk_exit ?_ | refine k_lp_ret ?_ | refine k_lp_exit ?_ | refine ki_lp_ret ?_ | refine ki_lp_exit ?_ | refine s_block ?_ | refine sp_skip ?_ | refine sp_ret ?_ | refine sp_exit ?_ | ((with_reducible refine k_blk_out ?_ ?_); (focus decide)) | ((with_reducible refine s_cond_t ?_ ?_); (focus (simp [*]; done))) | ((with_reducible refine s_cond_f ?_ ?_); (focus (simp [*]; done))) | (focus ((with_reducible refine s_region2 (q := ?_) (σ' := ?_) TT_ok PT15_ok ?_ ?_ ?_); rotate_left 2; (focus (first | (simp; exact Eq.refl _) | exact Eq.refl _)); (focus ((repeat (((with_reducible refine runL_cons (σ1 := ?_) ?_ ?_); rotate_left; (focus (simp [*]; rfl))))); (exact runL_nil))))) | (focus ((with_reducible refine s_draw2 (q := ?_) (es := ?_) (σ' := ?_) prog_mixed TT_ok PT15_ok ?_ ?_ ?_ ?_); rotate_left 3; (focus (first | (simp; exact Eq.refl _) | exact Eq.refl _)); (focus ((repeat (((with_reducible refine runE_cons (e := ?_) (σ1 := ?_) (es := ?_) ?_ ?_ ?_); rotate_left 3; (focus (simp [*]; exact Eq.refl _)); (focus (simp; exact Eq.refl _))))); (exact runE_nil))); (focus (first | kernel_rfl | decide)))))
    refine s_regionL ?_
    ((iterate 2 (((with_reducible refine spl_step TT_ok PT15_ok (id := 0) (σ' := ?_) ?_ ?_); rotate_left; (focus (simp [*]; rfl))))))
    (((with_reducible refine spl_stepX TT_ok PT15_ok (id := 0) (σ' := ?_) ?_ ?_); rotate_left; (focus (simp [stepX, coreX, cSliceNil, cClip, cStrB, cAppIn, cAppZ, cClear, cCap, isIntT, isStrT, isByteT, *]; rfl))))
    ((iterate 5 (((with_reducible refine spl_step TT_ok PT15_ok (id := 0) (σ' := ?_) ?_ ?_); rotate_left; (focus (simp [*]; rfl))))))
    refine spl_nil ?_
    by_cases h0 : n = 0
    · subst h0
      obtain rfl : A = [] := List.eq_nil_of_length_eq_zero (by omega)
      obtain rfl : C = [] := List.eq_nil_of_length_eq_zero (by omega)
      repeat (first | with_reducible first | refine s_seq ?_ | refine k_seq ?_ | refine k_seq_ret ?_ | refine k_seq_exit ?_ | refine k_blk ?_ | refine k_blk_ret ?_ | refine k_blk_exit ?_ | refine k_lp_ret ?_ | refine k_lp_exit ?_ | refine ki_lp_ret ?_ | refine ki_lp_exit ?_ | refine s_block ?_ | refine sp_skip ?_ | refine sp_ret ?_ | refine sp_exit ?_ | ((with_reducible refine k_blk_out ?_ ?_); (focus decide)) | ((with_reducible refine s_cond_t ?_ ?_); (focus (simp [*]; done))) | ((with_reducible refine s_cond_f ?_ ?_); (focus (simp [*]; done))) | (focus ((with_reducible refine s_region2 (q := ?_) (σ' := ?_) TT_ok PT15_ok ?_ ?_ ?_); rotate_left 2; (focus (first | (simp; exact Eq.refl _) | exact Eq.refl _)); (focus ((repeat (((with_reducible refine runL_cons (σ1 := ?_) ?_ ?_); rotate_left; (focus (simp [*]; rfl))))); (exact runL_nil))))) | (focus ((with_reducible refine s_draw2 (q := ?_) (es := ?_) (σ' := ?_) prog_mixed TT_ok PT15_ok ?_ ?_ ?_ ?_); rotate_left 3; (focus (first | (simp; exact Eq.refl _) | exact Eq.refl _)); (focus ((repeat (((with_reducible refine runE_cons (e := ?_) (σ1 := ?_) (es := ?_) ?_ ?_ ?_); rotate_left 3; (focus (simp [*]; exact Eq.refl _)); (focus (simp; exact Eq.refl _))))); (exact runE_nil))); (focus (first | kernel_rfl | decide)))))
      refine ⟨.inr rfl, .v (.slice none 0 0), ?_, ?_⟩
      · simp [retA, retL, ret1, lk]
      ((iterate 1 (((with_reducible refine spl_step TT_ok PT15_ok (id := 0) (σ' := ?_) ?_ ?_); rotate_left; (focus (simp [*]; rfl))))))
      refine spl_nil ?_
      refine k_seq ?_
      refine s_nil 6 7 38 1 (by simp [lk, AS.put, st]) (by simp [AS.put]) ?_
      simp only [AS.put, st]
      repeat (first | with_reducible first | refine s_seq ?_ | refine k_seq ?_ | refine k_seq_ret ?_ | refine k_seq_exit ?_ | refine k_blk ?_ | refine k_blk_ret ?_ | refine k_blk_exit ?_ | refine k_lp_ret ?_ | refine k_lp_exit ?_ | refine ki_lp_ret ?_ | refine ki_lp_exit ?_ | refine s_block ?_ | refine sp_skip ?_ | refine sp_ret ?_ | refine sp_exit ?_ | ((with_reducible refine k_blk_out ?_ ?_); (focus decide)) | ((with_reducible refine s_cond_t ?_ ?_); (focus (simp [*]; done))) | ((with_reducible refine s_cond_f ?_ ?_); (focus (simp [*]; done))) | (focus ((with_reducible refine s_region2 (q := ?_) (σ' := ?_) TT_ok PT15_ok ?_ ?_ ?_); rotate_left 2; (focus (first | (simp; exact Eq.refl _) | exact Eq.refl _)); (focus ((repeat (((with_reducible refine runL_cons (σ1 := ?_) ?_ ?_); rotate_left; (focus (simp [*]; rfl))))); (exact runL_nil))))) | (focus ((with_reducible refine s_draw2 (q := ?_) (es := ?_) (σ' := ?_) prog_mixed TT_ok PT15_ok ?_ ?_ ?_ ?_); rotate_left 3; (focus (first | (simp; exact Eq.refl _) | exact Eq.refl _)); (focus ((repeat (((with_reducible refine runE_cons (e := ?_) (σ1 := ?_) (es := ?_) ?_ ?_ ?_); rotate_left 3; (focus (simp [*]; exact Eq.refl _)); (focus (simp; exact Eq.refl _))))); (exact runE_nil))); (focus (first | kernel_rfl | decide)))))
      refine s_loop (J := fun i : {k : Nat // k ≤ 2} => ⟨36, [(6, .ref 7 0 0), (25, .sl 1 [[aRows []], [aRows []]]), (26, .v (.int .i64 2)), (27, .v (.int .i64 (i.1 : Int)))], [(7, ⟨38, 1, []⟩)], [7]⟩) (μ := fun i => 2 - i.1) ⟨0, by omega⟩ ?_ (fun ⟨k, hk⟩ => ?_)
      · (refine weak_id rfl ?_ ?_ <;> ((try simp only [List.mem_cons, List.not_mem_nil, or_false, forall_eq_or_imp, forall_eq]); (try simp (disch := omega) [i64w, *])))
      repeat (first | with_reducible first | refine s_seq ?_ | refine k_seq ?_ | refine k_seq_ret ?_ | refine k_seq_exit ?_ | refine k_blk ?_ | refine k_blk_ret ?_ | refine k_blk_exit ?_ | refine k_lp_ret ?_ | refine k_lp_exit ?_ | refine ki_lp_ret ?_ | refine ki_lp_exit ?_ | refine s_block ?_ | refine sp_skip ?_ | refine sp_ret ?_ | refine sp_exit ?_ | ((with_reducible refine k_blk_out ?_ ?_); (focus decide)) | ((with_reducible refine s_cond_t ?_ ?_); (focus (simp [*]; done))) | ((with_reducible refine s_cond_f ?_ ?_); (focus (simp [*]; done))) | (focus ((with_reducible refine s_region2 (q := ?_) (σ' := ?_) TT_ok PT15_ok ?_ ?_ ?_); rotate_left 2; (focus (first | (simp; exact Eq.refl _) | exact Eq.refl _)); (focus ((repeat (((with_reducible refine runL_cons (σ1 := ?_) ?_ ?_); rotate_left; (focus (simp [*]; rfl))))); (exact runL_nil))))) | (focus ((with_reducible refine s_draw2 (q := ?_) (es := ?_) (σ' := ?_) prog_mixed TT_ok PT15_ok ?_ ?_ ?_ ?_); rotate_left 3; (focus (first | (simp; exact Eq.refl _) | exact Eq.refl _)); (focus ((repeat (((with_reducible refine runE_cons (e := ?_) (σ1 := ?_) (es := ?_) ?_ ?_ ?_); rotate_left 3; (focus (simp [*]; exact Eq.refl _)); (focus (simp; exact Eq.refl _))))); (exact runE_nil))); (focus (first | kernel_rfl | decide)))))
      (focus ((with_reducible refine sp_cond (b := ?_) ?_ (fun hc => ?_) (fun hc => ?_)); rotate_left; (focus (first | rfl | (simp [lk, AS.ev]; rfl))); all_goals (try simp at hc)))
      · rcases (by omega : k = 0 ∨ k = 1) with rfl | rfl
        · repeat (first | with_reducible first | refine s_seq ?_ | refine k_seq ?_ | refine k_seq_ret ?_ | refine k_seq_exit ?_ | refine k_blk ?_ | refine k_blk_ret ?_ | refine k_blk_exit ?_ | refine k_lp_ret ?_ | refine k_lp_exit ?_ | refine ki_lp_ret ?_ | refine ki_lp_exit ?_ | refine s_block ?_ | refine sp_skip ?_ | refine sp_ret ?_ | refine sp_exit ?_ | ((with_reducible refine k_blk_out ?_ ?_); (focus decide)) | ((with_reducible refine s_cond_t ?_ ?_); (focus (simp [*]; done))) | ((with_reducible refine s_cond_f ?_ ?_); (focus (simp [*]; done))) | (focus ((with_reducible refine s_region2 (q := ?_) (σ' := ?_) TT_ok PT15_ok ?_ ?_ ?_); rotate_left 2; (focus (first | (simp; exact Eq.refl _) | exact Eq.refl _)); (focus ((repeat (((with_reducible refine runL_cons (σ1 := ?_) ?_ ?_); rotate_left; (focus (simp [*]; rfl))))); (exact runL_nil))))) | (focus ((with_reducible refine s_draw2 (q := ?_) (es := ?_) (σ' := ?_) prog_mixed TT_ok PT15_ok ?_ ?_ ?_ ?_); rotate_left 3; (focus (first | (simp; exact Eq.refl _) | exact Eq.refl _)); (focus ((repeat (((with_reducible refine runE_cons (e := ?_) (σ1 := ?_) (es := ?_) ?_ ?_ ?_); rotate_left 3; (focus (simp [*]; exact Eq.refl _)); (focus (simp; exact Eq.refl _))))); (exact runE_nil))); (focus (first | kernel_rfl | decide)))))
          refine k_lp (⟨1, by omega⟩ : {k : Nat // k ≤ 2}) (by dsimp only; omega) ?_
          (refine weak_of (fun k => if k = 7 then 10 else k) ⟨rfl, ?_, ?_, ?_⟩ <;> ((try simp only [List.mem_cons, List.not_mem_nil, or_false, forall_eq_or_imp, forall_eq]); (try simp (disch := omega) [lk, AV.ids, idsL, idsLL, AV.ren, renL, renLL, i64w, *])))
        · repeat (first | with_reducible first | refine s_seq ?_ | refine k_seq ?_ | refine k_seq_ret ?_ | refine k_seq_exit ?_ | refine k_blk ?_ | refine k_blk_ret ?_ | refine k_blk_exit ?_ | refine k_lp_ret ?_ | refine k_lp_exit ?_ | refine ki_lp_ret ?_ | refine ki_lp_exit ?_ | refine s_block ?_ | refine sp_skip ?_ | refine sp_ret ?_ | refine sp_exit ?_ | ((with_reducible refine k_blk_out ?_ ?_); (focus decide)) | ((with_reducible refine s_cond_t ?_ ?_); (focus (simp [*]; done))) | ((with_reducible refine s_cond_f ?_ ?_); (focus (simp [*]; done))) | (focus ((with_reducible refine s_region2 (q := ?_) (σ' := ?_) TT_ok PT15_ok ?_ ?_ ?_); rotate_left 2; (focus (first | (simp; exact Eq.refl _) | exact Eq.refl _)); (focus ((repeat (((with_reducible refine runL_cons (σ1 := ?_) ?_ ?_); rotate_left; (focus (simp [*]; rfl))))); (exact runL_nil))))) | (focus ((with_reducible refine s_draw2 (q := ?_) (es := ?_) (σ' := ?_) prog_mixed TT_ok PT15_ok ?_ ?_ ?_ ?_); rotate_left 3; (focus (first | (simp; exact Eq.refl _) | exact Eq.refl _)); (focus ((repeat (((with_reducible refine runE_cons (e := ?_) (σ1 := ?_) (es := ?_) ?_ ?_ ?_); rotate_left 3; (focus (simp [*]; exact Eq.refl _)); (focus (simp; exact Eq.refl _))))); (exact runE_nil))); (focus (first | kernel_rfl | decide)))))
          refine k_lp (⟨2, by omega⟩ : {k : Nat // k ≤ 2}) (by dsimp only; omega) ?_
          (refine weak_of (fun k => if k = 7 then 10 else k) ⟨rfl, ?_, ?_, ?_⟩ <;> ((try simp only [List.mem_cons, List.not_mem_nil, or_false, forall_eq_or_imp, forall_eq]); (try simp (disch := omega) [lk, AV.ids, idsL, idsLL, AV.ren, renL, renLL, i64w, *])))
      · repeat (first | with_reducible first | refine s_seq ?_ | refine k_seq ?_ | refine k_seq_ret ?_ | refine k_seq_exit ?_ | refine k_blk ?_ | refine k_blk_ret ?_ | refine k_blk_exit ?_ | refine k_lp_ret ?_ | refine k_lp_exit ?_ | refine ki_lp_ret ?_ | refine ki_lp_exit ?_ | refine s_block ?_ | refine sp_skip ?_ | refine sp_ret ?_ | refine sp_exit ?_ | ((with_reducible refine k_blk_out ?_ ?_); (focus decide)) | ((with_reducible refine s_cond_t ?_ ?_); (focus (simp [*]; done))) | ((with_reducible refine s_cond_f ?_ ?_); (focus (simp [*]; done))) | (focus ((with_reducible refine s_region2 (q := ?_) (σ' := ?_) TT_ok PT15_ok ?_ ?_ ?_); rotate_left 2; (focus (first | (simp; exact Eq.refl _) | exact Eq.refl _)); (focus ((repeat (((with_reducible refine runL_cons (σ1 := ?_) ?_ ?_); rotate_left; (focus (simp [*]; rfl))))); (exact runL_nil))))) | (focus ((with_reducible refine s_draw2 (q := ?_) (es := ?_) (σ' := ?_) prog_mixed TT_ok PT15_ok ?_ ?_ ?_ ?_); rotate_left 3; (focus (first | (simp; exact Eq.refl _) | exact Eq.refl _)); (focus ((repeat (((with_reducible refine runE_cons (e := ?_) (σ1 := ?_) (es := ?_) ?_ ?_ ?_); rotate_left 3; (focus (simp [*]; exact Eq.refl _)); (focus (simp; exact Eq.refl _))))); (exact runE_nil))); (focus (first | kernel_rfl | decide)))))
        ((refine post_ret (av := ?_) (by first | exact .inl rfl | exact .inr rfl) (show (Try.f57).results.toList = _ from by rw [Try.results57]) ?_ ?_); rotate_left; (focus (simp [retA, retL, ret1, lk, st, ldA, AV.cell]; rfl)); (try simp [*]))
        rfl
    · have hp : 0 < n := by omega
      have hp2 : (0 : Int) < n := by omega
      have c1 : n * 24 ≤ 140737488355328 := by omega
      have hl2 := catK_len A C
      rw [hn] at hl2
      have hc1 := catK_1 A C
      have hc2 := catK_2 A C
      repeat (first | with_reducible first | refine s_seq ?_ | refine k_seq ?_ | refine k_seq_ret ?_ | refine k_seq_exit ?_ | refine k_blk ?_ | refine k_blk_ret ?_ | refine k_blk_exit ?_ | refine k_lp_ret ?_ | refine k_lp_exit ?_ | refine ki_lp_ret ?_ | refine ki_lp_exit ?_ | refine s_block ?_ | refine sp_skip ?_ | refine sp_ret ?_ | refine sp_exit ?_ | ((with_reducible refine k_blk_out ?_ ?_); (focus decide)) | ((with_reducible refine s_cond_t ?_ ?_); (focus (simp [*]; done))) | ((with_reducible refine s_cond_f ?_ ?_); (focus (simp [*]; done))) | (focus ((with_reducible refine s_region2 (q := ?_) (σ' := ?_) TT_ok PT15_ok ?_ ?_ ?_); rotate_left 2; (focus (first | (simp; exact Eq.refl _) | exact Eq.refl _)); (focus ((repeat (((with_reducible refine runL_cons (σ1 := ?_) ?_ ?_); rotate_left; (focus (simp [*]; rfl))))); (exact runL_nil))))) | (focus ((with_reducible refine s_draw2 (q := ?_) (es := ?_) (σ' := ?_) prog_mixed TT_ok PT15_ok ?_ ?_ ?_ ?_); rotate_left 3; (focus (first | (simp; exact Eq.refl _) | exact Eq.refl _)); (focus ((repeat (((with_reducible refine runE_cons (e := ?_) (σ1 := ?_) (es := ?_) ?_ ?_ ?_); rotate_left 3; (focus (simp [*]; exact Eq.refl _)); (focus (simp; exact Eq.refl _))))); (exact runE_nil))); (focus (first | kernel_rfl | decide)))))
      refine s_regionL ?_
      ((iterate 2 (((with_reducible refine spl_step TT_ok PT15_ok (id := 0) (σ' := ?_) ?_ ?_); rotate_left; (focus (simp [*]; rfl))))))
      (((with_reducible refine spl_stepX TT_ok PT15_ok (id := 0) (σ' := ?_) ?_ ?_); rotate_left; (focus (simp [stepX, coreX, cSliceNil, cClip, cStrB, cAppIn, cAppZ, cClear, cCap, isIntT, isStrT, isByteT, *]; rfl))))
      (((with_reducible refine spl_stepX TT_ok PT15_ok (id := 0) (σ' := ?_) ?_ ?_); rotate_left; (focus (simp [stepX, coreX, cSliceNil, cClip, cStrB, cAppIn, cAppZ, cClear, cCap, isIntT, isStrT, isByteT, *]; rfl))))
      ((iterate 1 (((with_reducible refine spl_step TT_ok PT15_ok (id := 0) (σ' := ?_) ?_ ?_); rotate_left; (focus (simp [*]; rfl))))))
      (((with_reducible refine spl_stepX TT_ok PT15_ok (id := 7) (σ' := ?_) ?_ ?_); rotate_left; (focus (simp [stepX, coreX, cSliceNil, cClip, cStrB, cAppIn, cAppZ, cClear, cCap, isIntT, isStrT, isByteT, *]; rfl))))
      ((iterate 4 (((with_reducible refine spl_step TT_ok PT15_ok (id := 0) (σ' := ?_) ?_ ?_); rotate_left; (focus (simp [*]; rfl))))))
      refine spl_nil ?_
      repeat (first | with_reducible first | refine s_seq ?_ | refine k_seq ?_ | refine k_seq_ret ?_ | refine k_seq_exit ?_ | refine k_blk ?_ | refine k_blk_ret ?_ | refine k_blk_exit ?_ | refine k_lp_ret ?_ | refine k_lp_exit ?_ | refine ki_lp_ret ?_ | refine ki_lp_exit ?_ | refine s_block ?_ | refine sp_skip ?_ | refine sp_ret ?_ | refine sp_exit ?_ | ((with_reducible refine k_blk_out ?_ ?_); (focus decide)) | ((with_reducible refine s_cond_t ?_ ?_); (focus (simp [*]; done))) | ((with_reducible refine s_cond_f ?_ ?_); (focus (simp [*]; done))) | (focus ((with_reducible refine s_region2 (q := ?_) (σ' := ?_) TT_ok PT15_ok ?_ ?_ ?_); rotate_left 2; (focus (first | (simp; exact Eq.refl _) | exact Eq.refl _)); (focus ((repeat (((with_reducible refine runL_cons (σ1 := ?_) ?_ ?_); rotate_left; (focus (simp [*]; rfl))))); (exact runL_nil))))) | (focus ((with_reducible refine s_draw2 (q := ?_) (es := ?_) (σ' := ?_) prog_mixed TT_ok PT15_ok ?_ ?_ ?_ ?_); rotate_left 3; (focus (first | (simp; exact Eq.refl _) | exact Eq.refl _)); (focus ((repeat (((with_reducible refine runE_cons (e := ?_) (σ1 := ?_) (es := ?_) ?_ ?_ ?_); rotate_left 3; (focus (simp [*]; exact Eq.refl _)); (focus (simp; exact Eq.refl _))))); (exact runE_nil))); (focus (first | kernel_rfl | decide)))))
      refine ⟨.inr rfl, .ref 7 0 0, ?_, ?_⟩
      · simp [retA, retL, ret1, lk]
      ((iterate 1 (((with_reducible refine spl_step TT_ok PT15_ok (id := 0) (σ' := ?_) ?_ ?_); rotate_left; (focus (simp [*]; rfl))))))
      refine spl_nil ?_
      refine k_seq ?_
      repeat (first | with_reducible first | refine s_seq ?_ | refine k_seq ?_ | refine k_seq_ret ?_ | refine k_seq_exit ?_ | refine k_blk ?_ | refine k_blk_ret ?_ | refine k_blk_exit ?_ | refine k_lp_ret ?_ | refine k_lp_exit ?_ | refine ki_lp_ret ?_ | refine ki_lp_exit ?_ | refine s_block ?_ | refine sp_skip ?_ | refine sp_ret ?_ | refine sp_exit ?_ | ((with_reducible refine k_blk_out ?_ ?_); (focus decide)) | ((with_reducible refine s_cond_t ?_ ?_); (focus (simp [*]; done))) | ((with_reducible refine s_cond_f ?_ ?_); (focus (simp [*]; done))) | (focus ((with_reducible refine s_region2 (q := ?_) (σ' := ?_) TT_ok PT15_ok ?_ ?_ ?_); rotate_left 2; (focus (first | (simp; exact Eq.refl _) | exact Eq.refl _)); (focus ((repeat (((with_reducible refine runL_cons (σ1 := ?_) ?_ ?_); rotate_left; (focus (simp [*]; rfl))))); (exact runL_nil))))) | (focus ((with_reducible refine s_draw2 (q := ?_) (es := ?_) (σ' := ?_) prog_mixed TT_ok PT15_ok ?_ ?_ ?_ ?_); rotate_left 3; (focus (first | (simp; exact Eq.refl _) | exact Eq.refl _)); (focus ((repeat (((with_reducible refine runE_cons (e := ?_) (σ1 := ?_) (es := ?_) ?_ ?_ ?_); rotate_left 3; (focus (simp [*]; exact Eq.refl _)); (focus (simp; exact Eq.refl _))))); (exact runE_nil))); (focus (first | kernel_rfl | decide)))))
      refine s_loop (J := fun i : {k : Nat // k ≤ 2} => ⟨36, [(6, .ref 7 0 (sz2 A.length n i.1)), (25, .sl 1 [[aRows A], [aRows C]]), (26, .v (.int .i64 2)), (27, .v (.int .i64 (i.1 : Int)))], [(7, ⟨38, 1, catK A C i.1⟩)], [7]⟩) (μ := fun i => 2 - i.1) ⟨0, by omega⟩ ?_ (fun ⟨k, hk⟩ => ?_)
      · (refine weak_id rfl ?_ ?_ <;> ((try simp only [List.mem_cons, List.not_mem_nil, or_false, forall_eq_or_imp, forall_eq]); (try simp (disch := omega) [i64w, *])))
        · rfl
        · unfold catK
          rw [if_pos rfl, hn]
          exact ⟨rfl, fun q hq => by rw [ids_rep] at hq; cases hq⟩
      have h0' : ¬ 0 = n := by omega
      repeat (first | with_reducible first | refine s_seq ?_ | refine k_seq ?_ | refine k_seq_ret ?_ | refine k_seq_exit ?_ | refine k_blk ?_ | refine k_blk_ret ?_ | refine k_blk_exit ?_ | refine k_lp_ret ?_ | refine k_lp_exit ?_ | refine ki_lp_ret ?_ | refine ki_lp_exit ?_ | refine s_block ?_ | refine sp_skip ?_ | refine sp_ret ?_ | refine sp_exit ?_ | ((with_reducible refine k_blk_out ?_ ?_); (focus decide)) | ((with_reducible refine s_cond_t ?_ ?_); (focus (simp [*]; done))) | ((with_reducible refine s_cond_f ?_ ?_); (focus (simp [*]; done))) | (focus ((with_reducible refine s_region2 (q := ?_) (σ' := ?_) TT_ok PT15_ok ?_ ?_ ?_); rotate_left 2; (focus (first | (simp; exact Eq.refl _) | exact Eq.refl _)); (focus ((repeat (((with_reducible refine runL_cons (σ1 := ?_) ?_ ?_); rotate_left; (focus (simp [*]; rfl))))); (exact runL_nil))))) | (focus ((with_reducible refine s_draw2 (q := ?_) (es := ?_) (σ' := ?_) prog_mixed TT_ok PT15_ok ?_ ?_ ?_ ?_); rotate_left 3; (focus (first | (simp; exact Eq.refl _) | exact Eq.refl _)); (focus ((repeat (((with_reducible refine runE_cons (e := ?_) (σ1 := ?_) (es := ?_) ?_ ?_ ?_); rotate_left 3; (focus (simp [*]; exact Eq.refl _)); (focus (simp; exact Eq.refl _))))); (exact runE_nil))); (focus (first | kernel_rfl | decide)))))
      (focus ((with_reducible refine sp_cond (b := ?_) ?_ (fun hc => ?_) (fun hc => ?_)); rotate_left; (focus (first | rfl | (simp [lk, AS.ev]; rfl))); all_goals (try simp at hc)))
      · rcases (by omega : k = 0 ∨ k = 1) with rfl | rfl
        · have e0 : sz2 A.length n 0 = 0 := rfl
          have e1 : sz2 A.length n 1 = A.length := rfl
          have g1 : A.length ≤ n := by omega
          repeat (first | with_reducible first | refine s_seq ?_ | refine k_seq ?_ | refine k_seq_ret ?_ | refine k_seq_exit ?_ | refine k_blk ?_ | refine k_blk_ret ?_ | refine k_blk_exit ?_ | refine k_lp_ret ?_ | refine k_lp_exit ?_ | refine ki_lp_ret ?_ | refine ki_lp_exit ?_ | refine s_block ?_ | refine sp_skip ?_ | refine sp_ret ?_ | refine sp_exit ?_ | ((with_reducible refine k_blk_out ?_ ?_); (focus decide)) | ((with_reducible refine s_cond_t ?_ ?_); (focus (simp [*]; done))) | ((with_reducible refine s_cond_f ?_ ?_); (focus (simp [*]; done))) | (focus ((with_reducible refine s_region2 (q := ?_) (σ' := ?_) TT_ok PT15_ok ?_ ?_ ?_); rotate_left 2; (focus (first | (simp; exact Eq.refl _) | exact Eq.refl _)); (focus ((repeat (((with_reducible refine runL_cons (σ1 := ?_) ?_ ?_); rotate_left; (focus (simp [*]; rfl))))); (exact runL_nil))))) | (focus ((with_reducible refine s_draw2 (q := ?_) (es := ?_) (σ' := ?_) prog_mixed TT_ok PT15_ok ?_ ?_ ?_ ?_); rotate_left 3; (focus (first | (simp; exact Eq.refl _) | exact Eq.refl _)); (focus ((repeat (((with_reducible refine runE_cons (e := ?_) (σ1 := ?_) (es := ?_) ?_ ?_ ?_); rotate_left 3; (focus (simp [*]; exact Eq.refl _)); (focus (simp; exact Eq.refl _))))); (exact runE_nil))); (focus (first | kernel_rfl | decide)))))
          refine s_regionL ?_
          ((iterate 2 (((with_reducible refine spl_step TT_ok PT15_ok (id := 0) (σ' := ?_) ?_ ?_); rotate_left; (focus (simp [*]; rfl))))))
          (((with_reducible refine spl_coreX TT_ok (id := 0) (s := ?_) rfl rfl ?_ ?_); rotate_left; (focus (simp [stepX, coreX, cSliceNil, cClip, cStrB, cAppIn, cAppZ, cClear, cCap, isIntT, isStrT, isByteT, *]; rfl))))
          (refine spl_eq (τ := ?_) ?_ ?_; rotate_left; (focus ((try simp only [AS.frz, List.map_cons, List.map_nil]); (try simp [frzV, frzO, frzC, List.filter]); rfl)))
          ((iterate 1 (((with_reducible refine spl_step TT_ok PT15_ok (id := 0) (σ' := ?_) ?_ ?_); rotate_left; (focus (simp [*]; rfl))))))
          refine spl_nil ?_
          repeat (first | with_reducible first | refine s_seq ?_ | refine k_seq ?_ | refine k_seq_ret ?_ | refine k_seq_exit ?_ | refine k_blk ?_ | refine k_blk_ret ?_ | refine k_blk_exit ?_ | refine k_lp_ret ?_ | refine k_lp_exit ?_ | refine ki_lp_ret ?_ | refine ki_lp_exit ?_ | refine s_block ?_ | refine sp_skip ?_ | refine sp_ret ?_ | refine sp_exit ?_ | ((with_reducible refine k_blk_out ?_ ?_); (focus decide)) | ((with_reducible refine s_cond_t ?_ ?_); (focus (simp [*]; done))) | ((with_reducible refine s_cond_f ?_ ?_); (focus (simp [*]; done))) | (focus ((with_reducible refine s_region2 (q := ?_) (σ' := ?_) TT_ok PT15_ok ?_ ?_ ?_); rotate_left 2; (focus (first | (simp; exact Eq.refl _) | exact Eq.refl _)); (focus ((repeat (((with_reducible refine runL_cons (σ1 := ?_) ?_ ?_); rotate_left; (focus (simp [*]; rfl))))); (exact runL_nil))))) | (focus ((with_reducible refine s_draw2 (q := ?_) (es := ?_) (σ' := ?_) prog_mixed TT_ok PT15_ok ?_ ?_ ?_ ?_); rotate_left 3; (focus (first | (simp; exact Eq.refl _) | exact Eq.refl _)); (focus ((repeat (((with_reducible refine runE_cons (e := ?_) (σ1 := ?_) (es := ?_) ?_ ?_ ?_); rotate_left 3; (focus (simp [*]; exact Eq.refl _)); (focus (simp; exact Eq.refl _))))); (exact runE_nil))); (focus (first | kernel_rfl | decide)))))
          refine k_lp (⟨1, by omega⟩ : {k : Nat // k ≤ 2}) (by dsimp only; omega) ?_
          (refine weak_id rfl ?_ ?_ <;> ((try simp only [List.mem_cons, List.not_mem_nil, or_false, forall_eq_or_imp, forall_eq]); (try simp (disch := omega) [i64w, *])))
          exact ⟨catK_1' A C, fun q hq => by rw [catK_ids] at hq; cases hq⟩
        · have e1 : sz2 A.length n 1 = A.length := rfl
          have e2 : sz2 A.length n 2 = n := rfl
          have g1 : A.length ≤ n := by omega
          repeat (first | with_reducible first | refine s_seq ?_ | refine k_seq ?_ | refine k_seq_ret ?_ | refine k_seq_exit ?_ | refine k_blk ?_ | refine k_blk_ret ?_ | refine k_blk_exit ?_ | refine k_lp_ret ?_ | refine k_lp_exit ?_ | refine ki_lp_ret ?_ | refine ki_lp_exit ?_ | refine s_block ?_ | refine sp_skip ?_ | refine sp_ret ?_ | refine sp_exit ?_ | ((with_reducible refine k_blk_out ?_ ?_); (focus decide)) | ((with_reducible refine s_cond_t ?_ ?_); (focus (simp [*]; done))) | ((with_reducible refine s_cond_f ?_ ?_); (focus (simp [*]; done))) | (focus ((with_reducible refine s_region2 (q := ?_) (σ' := ?_) TT_ok PT15_ok ?_ ?_ ?_); rotate_left 2; (focus (first | (simp; exact Eq.refl _) | exact Eq.refl _)); (focus ((repeat (((with_reducible refine runL_cons (σ1 := ?_) ?_ ?_); rotate_left; (focus (simp [*]; rfl))))); (exact runL_nil))))) | (focus ((with_reducible refine s_draw2 (q := ?_) (es := ?_) (σ' := ?_) prog_mixed TT_ok PT15_ok ?_ ?_ ?_ ?_); rotate_left 3; (focus (first | (simp; exact Eq.refl _) | exact Eq.refl _)); (focus ((repeat (((with_reducible refine runE_cons (e := ?_) (σ1 := ?_) (es := ?_) ?_ ?_ ?_); rotate_left 3; (focus (simp [*]; exact Eq.refl _)); (focus (simp; exact Eq.refl _))))); (exact runE_nil))); (focus (first | kernel_rfl | decide)))))
          refine s_regionL ?_
          ((iterate 2 (((with_reducible refine spl_step TT_ok PT15_ok (id := 0) (σ' := ?_) ?_ ?_); rotate_left; (focus (simp [*]; rfl))))))
          (((with_reducible refine spl_coreX TT_ok (id := 0) (s := ?_) rfl rfl ?_ ?_); rotate_left; (focus (simp [stepX, coreX, cSliceNil, cClip, cStrB, cAppIn, cAppZ, cClear, cCap, isIntT, isStrT, isByteT, *]; rfl))))
          (refine spl_eq (τ := ?_) ?_ ?_; rotate_left; (focus ((try simp only [AS.frz, List.map_cons, List.map_nil]); (try simp [frzV, frzO, frzC, List.filter]); rfl)))
          ((iterate 1 (((with_reducible refine spl_step TT_ok PT15_ok (id := 0) (σ' := ?_) ?_ ?_); rotate_left; (focus (simp [*]; rfl))))))
          refine spl_nil ?_
          repeat (first | with_reducible first | refine s_seq ?_ | refine k_seq ?_ | refine k_seq_ret ?_ | refine k_seq_exit ?_ | refine k_blk ?_ | refine k_blk_ret ?_ | refine k_blk_exit ?_ | refine k_lp_ret ?_ | refine k_lp_exit ?_ | refine ki_lp_ret ?_ | refine ki_lp_exit ?_ | refine s_block ?_ | refine sp_skip ?_ | refine sp_ret ?_ | refine sp_exit ?_ | ((with_reducible refine k_blk_out ?_ ?_); (focus decide)) | ((with_reducible refine s_cond_t ?_ ?_); (focus (simp [*]; done))) | ((with_reducible refine s_cond_f ?_ ?_); (focus (simp [*]; done))) | (focus ((with_reducible refine s_region2 (q := ?_) (σ' := ?_) TT_ok PT15_ok ?_ ?_ ?_); rotate_left 2; (focus (first | (simp; exact Eq.refl _) | exact Eq.refl _)); (focus ((repeat (((with_reducible refine runL_cons (σ1 := ?_) ?_ ?_); rotate_left; (focus (simp [*]; rfl))))); (exact runL_nil))))) | (focus ((with_reducible refine s_draw2 (q := ?_) (es := ?_) (σ' := ?_) prog_mixed TT_ok PT15_ok ?_ ?_ ?_ ?_); rotate_left 3; (focus (first | (simp; exact Eq.refl _) | exact Eq.refl _)); (focus ((repeat (((with_reducible refine runE_cons (e := ?_) (σ1 := ?_) (es := ?_) ?_ ?_ ?_); rotate_left 3; (focus (simp [*]; exact Eq.refl _)); (focus (simp; exact Eq.refl _))))); (exact runE_nil))); (focus (first | kernel_rfl | decide)))))
          refine k_lp (⟨2, by omega⟩ : {k : Nat // k ≤ 2}) (by dsimp only; omega) ?_
          (refine weak_id rfl ?_ ?_ <;> ((try simp only [List.mem_cons, List.not_mem_nil, or_false, forall_eq_or_imp, forall_eq]); (try simp (disch := omega) [i64w, *])))
          have h2 := catK_2' A C
          rw [hn] at h2
          exact ⟨h2, fun q hq => by rw [catK_ids] at hq; cases hq⟩
      · obtain rfl : k = 2 := by omega
        have e3 : sz2 A.length n 2 = n := rfl
        have e4 : catK A C 2 = (A ++ C).map fun xs => [aInts xs] := rfl
        have e5 : ((A ++ C).map fun xs => [aInts xs]).take n = (A ++ C).map fun xs => [aInts xs] := List.take_of_length_le (by simp; omega)
        rw [e3, e4]
        repeat (first | with_reducible first | refine s_seq ?_ | refine k_seq ?_ | refine k_seq_ret ?_ | refine k_seq_exit ?_ | refine k_blk ?_ | refine k_blk_ret ?_ | refine k_blk_exit ?_ | refine k_lp_ret ?_ | refine k_lp_exit ?_ | refine ki_lp_ret ?_ | refine ki_lp_exit ?_ | refine s_block ?_ | refine sp_skip ?_ | refine sp_ret ?_ | refine sp_exit ?_ | ((with_reducible refine k_blk_out ?_ ?_); (focus decide)) | ((with_reducible refine s_cond_t ?_ ?_); (focus (simp [*]; done))) | ((with_reducible refine s_cond_f ?_ ?_); (focus (simp [*]; done))) | (focus ((with_reducible refine s_region2 (q := ?_) (σ' := ?_) TT_ok PT15_ok ?_ ?_ ?_); rotate_left 2; (focus (first | (simp; exact Eq.refl _) | exact Eq.refl _)); (focus ((repeat (((with_reducible refine runL_cons (σ1 := ?_) ?_ ?_); rotate_left; (focus (simp [*]; rfl))))); (exact runL_nil))))) | (focus ((with_reducible refine s_draw2 (q := ?_) (es := ?_) (σ' := ?_) prog_mixed TT_ok PT15_ok ?_ ?_ ?_ ?_); rotate_left 3; (focus (first | (simp; exact Eq.refl _) | exact Eq.refl _)); (focus ((repeat (((with_reducible refine runE_cons (e := ?_) (σ1 := ?_) (es := ?_) ?_ ?_ ?_); rotate_left 3; (focus (simp [*]; exact Eq.refl _)); (focus (simp; exact Eq.refl _))))); (exact runE_nil))); (focus (first | kernel_rfl | decide)))))
        ((refine post_ret (av := ?_) (by first | exact .inl rfl | exact .inr rfl) (show (Try.f57).results.toList = _ from by rw [Try.results57]) ?_ ?_); rotate_left; (focus (simp [retA, retL, ret1, lk, st, ldA, AV.cell]; rfl)); (try simp [*]))
        rw [← List.map_append, e5]
        exact ⟨idsLL_rows _, rfl⟩
/-- The error of a conjunction. -/
def joinE (N : Int) (L : List (List Int)) (M : Int) (K : List (List Int)) : Int := if checkT N L ≠ 0 then checkT N L else if checkT M K ≠ 0 then checkT M K else if 4096 < L.length + K.length then 2 else 0
/-- A conjunction. -/
def joinA (N : Int) (L : List (List Int)) (M : Int) (K : List (List Int)) : AV := if joinE N L M K = 0 then .tup [aTh (if N < M then M else N) (L ++ K), .v (.int .i64 0)] else .tup [.agg [.v (.int .i64 0), .v (.slice none 0 0)], .v (.int .i64 (joinE N L M K))]
theorem joinA_no {N : Int} {L : List (List Int)} {M : Int} {K : List (List Int)} {e : Int} (h : joinE N L M K = e) (he : e ≠ 0) : joinA N L M K = .tup [.agg [.v (.int .i64 0), .v (.slice none 0 0)], .v (.int .i64 e)] := by
  unfold joinA; rw [h, if_neg he]
theorem joinE_1 {N : Int} {L : List (List Int)} {M : Int} {K : List (List Int)} (h : checkT N L ≠ 0) : joinE N L M K = checkT N L := by unfold joinE; rw [if_pos h]
theorem joinE_2 {N : Int} {L : List (List Int)} {M : Int} {K : List (List Int)} (h : checkT N L = 0) (h2 : checkT M K ≠ 0) : joinE N L M K = checkT M K := by unfold joinE; rw [if_neg (by omega), if_pos h2]
theorem joinE_3 {N : Int} {L : List (List Int)} {M : Int} {K : List (List Int)} (h : checkT N L = 0) (h2 : checkT M K = 0) (h3 : 4096 < L.length + K.length) : joinE N L M K = 2 := by unfold joinE; rw [if_neg (by omega), if_neg (by omega), if_pos h3]
theorem joinA_ok {N : Int} {L : List (List Int)} {M : Int} {K : List (List Int)} (h : checkT N L = 0) (h2 : checkT M K = 0) (h3 : ¬ 4096 < L.length + K.length) : joinA N L M K = .tup [.agg [.v (.int .i64 (if N < M then M else N)), aRows (L ++ K)], .v (.int .i64 0)] := by
  unfold joinA joinE; rw [if_neg (show ¬ checkT N L ≠ 0 by omega), if_neg (show ¬ checkT M K ≠ 0 by omega), if_neg h3]; rfl
/-- The first k clauses. -/
def tkL (X : List (List Int)) (k : Nat) : List (List Int) := X.take k
theorem tkL_zero (X : List (List Int)) : tkL X 0 = [] := rfl
theorem tkL_all (X : List (List Int)) : tkL X X.length = X := List.take_length
theorem tkL_len {X : List (List Int)} {k : Nat} (h : k ≤ X.length) : (tkL X k).length = k := by unfold tkL; rw [List.length_take]; omega
theorem tkL_succ {X : List (List Int)} {k : Nat} (h : k < X.length) : tkL X (k + 1) = tkL X k ++ [X.getD k []] := by
  unfold tkL; rw [List.take_succ_eq_append_getElem h]; simp [List.getD, h]
theorem take_snoc {α : Type} {l : List α} {k : Nat} (h : k < l.length) (d : α) : l.take (k + 1) = l.take k ++ [l.getD k d] := by
  rw [List.take_succ_eq_append_getElem h]; simp [List.getD, h]
@[local simp] theorem range2 : List.range 2 = [0, 1] := rfl
@[local simp] theorem range4 : List.range 4 = [0, 1, 2, 3] := rfl
set_option maxHeartbeats 20000000 in
theorem join_p (N : Int) (L : List (List Int)) (M : Int) (K : List (List Int)) (hN : okI N = true) (hM : okI M = true) (hL : okRows L = true) (hK : okRows K = true) : FnPure Try.prog 32 [aTh N L, aTh M K] (joinA N L M K) := by
  have l1 := okRows_len hL
  have l2 := okRows_len hK
  have ws : IntKind.i64.wrap ((L.length : Int) + K.length) = (L.length : Int) + K.length := i64w (by omega) (by omega)
  unfold aTh
  refine fn_sp TT_ok Try.func32 (c := _) rfl (by simp [Try.ntmps32]) (fun B hI0 hro => ?_)
  rw [Try.ntmps32]
  simp only [enumA]
  repeat (first | with_reducible first | refine s_seq ?_ | refine k_seq ?_ | refine k_seq_ret ?_ | refine k_seq_exit ?_ | refine k_blk ?_ | refine k_blk_ret ?_ | refine k_blk_exit ?_ | refine k_lp_ret ?_ | refine k_lp_exit ?_ | refine ki_lp_ret ?_ | refine ki_lp_exit ?_ | refine s_block ?_ | refine sp_skip ?_ | refine sp_ret ?_ | refine sp_exit ?_ | ((with_reducible refine k_blk_out ?_ ?_); (focus decide)) | ((with_reducible refine s_cond_t ?_ ?_); (focus (simp [*]; done))) | ((with_reducible refine s_cond_f ?_ ?_); (focus (simp [*]; done))) | (focus ((with_reducible refine s_region2 (q := ?_) (σ' := ?_) TT_ok PT15_ok ?_ ?_ ?_); rotate_left 2; (focus (first | (simp; exact Eq.refl _) | exact Eq.refl _)); (focus ((repeat (((with_reducible refine runL_cons (σ1 := ?_) ?_ ?_); rotate_left; (focus (simp [*]; rfl))))); (exact runL_nil))))) | (focus ((with_reducible refine s_draw2 (q := ?_) (es := ?_) (σ' := ?_) prog_mixed TT_ok PT15_ok ?_ ?_ ?_ ?_); rotate_left 3; (focus (first | (simp; exact Eq.refl _) | exact Eq.refl _)); (focus ((repeat (((with_reducible refine runE_cons (e := ?_) (σ1 := ?_) (es := ?_) ?_ ?_ ?_); rotate_left 3; (focus (simp [*]; exact Eq.refl _)); (focus (simp; exact Eq.refl _))))); (exact runE_nil))); (focus (first | kernel_rfl | decide)))))
  refine s_loop (J := fun i : {k : Nat // k ≤ 2 ∧ (1 ≤ k → checkT N L = 0) ∧ (2 ≤ k → checkT M K = 0)} => ⟨62, [(2, .ptr 0 0 0), (3, .ptr 1 0 0), (4, .ptr 2 0 0), (5, .v (.int .i64 0)), (14, .ref 5 0 2), (15, .v (.int .i64 2)), (16, .v (.int .i64 (i.1 : Int)))], [(0, ⟨24, 2, [[.v (.int .i64 N), aRows L]]⟩), (1, ⟨24, 2, [[.v (.int .i64 M), aRows K]]⟩), (2, ⟨24, 2, [[.v (.int .i64 0), .v (.slice none 0 0)]]⟩), (5, ⟨24, 2, [[.v (.int .i64 N), aRows L], [.v (.int .i64 M), aRows K]]⟩)], [5, 2, 1, 0]⟩) (μ := fun i => 2 - i.1) ⟨0, by omega, by omega, by omega⟩ ?_ (fun ⟨k, hk, q1, q2⟩ => ?_)
  · (refine weak_id rfl ?_ ?_ <;> ((try simp only [List.mem_cons, List.not_mem_nil, or_false, forall_eq_or_imp, forall_eq]); (try simp (disch := omega) [i64w, *])))
  repeat (first | with_reducible first | refine s_seq ?_ | refine k_seq ?_ | refine k_seq_ret ?_ | refine k_seq_exit ?_ | refine k_blk ?_ | refine k_blk_ret ?_ | refine k_blk_exit ?_ | refine k_lp_ret ?_ | refine k_lp_exit ?_ | refine ki_lp_ret ?_ | refine ki_lp_exit ?_ | refine s_block ?_ | refine sp_skip ?_ | refine sp_ret ?_ | refine sp_exit ?_ | ((with_reducible refine k_blk_out ?_ ?_); (focus decide)) | ((with_reducible refine s_cond_t ?_ ?_); (focus (simp [*]; done))) | ((with_reducible refine s_cond_f ?_ ?_); (focus (simp [*]; done))) | (focus ((with_reducible refine s_region2 (q := ?_) (σ' := ?_) TT_ok PT15_ok ?_ ?_ ?_); rotate_left 2; (focus (first | (simp; exact Eq.refl _) | exact Eq.refl _)); (focus ((repeat (((with_reducible refine runL_cons (σ1 := ?_) ?_ ?_); rotate_left; (focus (simp [*]; rfl))))); (exact runL_nil))))) | (focus ((with_reducible refine s_draw2 (q := ?_) (es := ?_) (σ' := ?_) prog_mixed TT_ok PT15_ok ?_ ?_ ?_ ?_); rotate_left 3; (focus (first | (simp; exact Eq.refl _) | exact Eq.refl _)); (focus ((repeat (((with_reducible refine runE_cons (e := ?_) (σ1 := ?_) (es := ?_) ?_ ?_ ?_); rotate_left 3; (focus (simp [*]; exact Eq.refl _)); (focus (simp; exact Eq.refl _))))); (exact runE_nil))); (focus (first | kernel_rfl | decide)))))
  (focus ((with_reducible refine sp_cond (b := ?_) ?_ (fun hc => ?_) (fun hc => ?_)); rotate_left; (focus (first | rfl | (simp [lk, AS.ev]; rfl))); all_goals (try simp at hc)))
  · rcases (by omega : k = 0 ∨ k = 1) with rfl | rfl
    · by_cases z1 : checkT N L = 0
      · repeat (first | with_reducible first | refine s_seq ?_ | refine k_seq ?_ | refine k_seq_ret ?_ | refine k_seq_exit ?_ | refine k_blk ?_ | refine k_blk_ret ?_ | refine k_blk_exit ?_ | refine k_lp_ret ?_ | refine k_lp_exit ?_ | refine ki_lp_ret ?_ | refine ki_lp_exit ?_ | refine s_block ?_ | refine sp_skip ?_ | refine sp_ret ?_ | refine sp_exit ?_ | ((with_reducible refine k_blk_out ?_ ?_); (focus decide)) | ((with_reducible refine s_cond_t ?_ ?_); (focus (simp [*]; done))) | ((with_reducible refine s_cond_f ?_ ?_); (focus (simp [*]; done))) | (focus ((with_reducible refine s_region2 (q := ?_) (σ' := ?_) TT_ok PT15_ok ?_ ?_ ?_); rotate_left 2; (focus (first | (simp; exact Eq.refl _) | exact Eq.refl _)); (focus ((repeat (((with_reducible refine runL_cons (σ1 := ?_) ?_ ?_); rotate_left; (focus (simp [*]; rfl))))); (exact runL_nil))))) | (focus ((with_reducible refine s_draw2 (q := ?_) (es := ?_) (σ' := ?_) prog_mixed TT_ok PT15_ok ?_ ?_ ?_ ?_); rotate_left 3; (focus (first | (simp; exact Eq.refl _) | exact Eq.refl _)); (focus ((repeat (((with_reducible refine runE_cons (e := ?_) (σ1 := ?_) (es := ?_) ?_ ?_ ?_); rotate_left 3; (focus (simp [*]; exact Eq.refl _)); (focus (simp; exact Eq.refl _))))); (exact runE_nil))); (focus (first | kernel_rfl | decide)))))
        refine k_lp (⟨1, by omega, fun _ => z1, by omega⟩ : {k : Nat // k ≤ 2 ∧ (1 ≤ k → checkT N L = 0) ∧ (2 ≤ k → checkT M K = 0)}) (by dsimp only; omega) ?_
        (refine weak_id rfl ?_ ?_ <;> ((try simp only [List.mem_cons, List.not_mem_nil, or_false, forall_eq_or_imp, forall_eq]); (try simp (disch := omega) [i64w, *])))
      · have hz : (checkT N L != 0) = true := by simpa using z1
        have hJ := joinA_no (joinE_1 (M := M) (K := K) z1) z1
        repeat (first | with_reducible first | refine s_seq ?_ | refine k_seq ?_ | refine k_seq_ret ?_ | refine k_seq_exit ?_ | refine k_blk ?_ | refine k_blk_ret ?_ | refine k_blk_exit ?_ | refine k_lp_ret ?_ | refine k_lp_exit ?_ | refine ki_lp_ret ?_ | refine ki_lp_exit ?_ | refine s_block ?_ | refine sp_skip ?_ | refine sp_ret ?_ | refine sp_exit ?_ | ((with_reducible refine k_blk_out ?_ ?_); (focus decide)) | ((with_reducible refine s_cond_t ?_ ?_); (focus (simp [*]; done))) | ((with_reducible refine s_cond_f ?_ ?_); (focus (simp [*]; done))) | (focus ((with_reducible refine s_region2 (q := ?_) (σ' := ?_) TT_ok PT15_ok ?_ ?_ ?_); rotate_left 2; (focus (first | (simp; exact Eq.refl _) | exact Eq.refl _)); (focus ((repeat (((with_reducible refine runL_cons (σ1 := ?_) ?_ ?_); rotate_left; (focus (simp [*]; rfl))))); (exact runL_nil))))) | (focus ((with_reducible refine s_draw2 (q := ?_) (es := ?_) (σ' := ?_) prog_mixed TT_ok PT15_ok ?_ ?_ ?_ ?_); rotate_left 3; (focus (first | (simp; exact Eq.refl _) | exact Eq.refl _)); (focus ((repeat (((with_reducible refine runE_cons (e := ?_) (σ1 := ?_) (es := ?_) ?_ ?_ ?_); rotate_left 3; (focus (simp [*]; exact Eq.refl _)); (focus (simp; exact Eq.refl _))))); (exact runE_nil))); (focus (first | kernel_rfl | decide)))))
        ((refine post_ret (av := ?_) (by first | exact .inl rfl | exact .inr rfl) (show (Try.f32).results.toList = _ from by rw [Try.results32]) ?_ ?_); rotate_left; (focus (simp [retA, retL, ret1, lk, st, ldA, AV.cell]; rfl)); (try simp [*]))
    · have z1 := q1 (Nat.le_refl _)
      by_cases z2 : checkT M K = 0
      · repeat (first | with_reducible first | refine s_seq ?_ | refine k_seq ?_ | refine k_seq_ret ?_ | refine k_seq_exit ?_ | refine k_blk ?_ | refine k_blk_ret ?_ | refine k_blk_exit ?_ | refine k_lp_ret ?_ | refine k_lp_exit ?_ | refine ki_lp_ret ?_ | refine ki_lp_exit ?_ | refine s_block ?_ | refine sp_skip ?_ | refine sp_ret ?_ | refine sp_exit ?_ | ((with_reducible refine k_blk_out ?_ ?_); (focus decide)) | ((with_reducible refine s_cond_t ?_ ?_); (focus (simp [*]; done))) | ((with_reducible refine s_cond_f ?_ ?_); (focus (simp [*]; done))) | (focus ((with_reducible refine s_region2 (q := ?_) (σ' := ?_) TT_ok PT15_ok ?_ ?_ ?_); rotate_left 2; (focus (first | (simp; exact Eq.refl _) | exact Eq.refl _)); (focus ((repeat (((with_reducible refine runL_cons (σ1 := ?_) ?_ ?_); rotate_left; (focus (simp [*]; rfl))))); (exact runL_nil))))) | (focus ((with_reducible refine s_draw2 (q := ?_) (es := ?_) (σ' := ?_) prog_mixed TT_ok PT15_ok ?_ ?_ ?_ ?_); rotate_left 3; (focus (first | (simp; exact Eq.refl _) | exact Eq.refl _)); (focus ((repeat (((with_reducible refine runE_cons (e := ?_) (σ1 := ?_) (es := ?_) ?_ ?_ ?_); rotate_left 3; (focus (simp [*]; exact Eq.refl _)); (focus (simp; exact Eq.refl _))))); (exact runE_nil))); (focus (first | kernel_rfl | decide)))))
        refine k_lp (⟨2, by omega, fun _ => z1, fun _ => z2⟩ : {k : Nat // k ≤ 2 ∧ (1 ≤ k → checkT N L = 0) ∧ (2 ≤ k → checkT M K = 0)}) (by dsimp only; omega) ?_
        (refine weak_id rfl ?_ ?_ <;> ((try simp only [List.mem_cons, List.not_mem_nil, or_false, forall_eq_or_imp, forall_eq]); (try simp (disch := omega) [i64w, *])))
      · have hz : (checkT M K != 0) = true := by simpa using z2
        have hJ := joinA_no (joinE_2 z1 z2) z2
        repeat (first | with_reducible first | refine s_seq ?_ | refine k_seq ?_ | refine k_seq_ret ?_ | refine k_seq_exit ?_ | refine k_blk ?_ | refine k_blk_ret ?_ | refine k_blk_exit ?_ | refine k_lp_ret ?_ | refine k_lp_exit ?_ | refine ki_lp_ret ?_ | refine ki_lp_exit ?_ | refine s_block ?_ | refine sp_skip ?_ | refine sp_ret ?_ | refine sp_exit ?_ | ((with_reducible refine k_blk_out ?_ ?_); (focus decide)) | ((with_reducible refine s_cond_t ?_ ?_); (focus (simp [*]; done))) | ((with_reducible refine s_cond_f ?_ ?_); (focus (simp [*]; done))) | (focus ((with_reducible refine s_region2 (q := ?_) (σ' := ?_) TT_ok PT15_ok ?_ ?_ ?_); rotate_left 2; (focus (first | (simp; exact Eq.refl _) | exact Eq.refl _)); (focus ((repeat (((with_reducible refine runL_cons (σ1 := ?_) ?_ ?_); rotate_left; (focus (simp [*]; rfl))))); (exact runL_nil))))) | (focus ((with_reducible refine s_draw2 (q := ?_) (es := ?_) (σ' := ?_) prog_mixed TT_ok PT15_ok ?_ ?_ ?_ ?_); rotate_left 3; (focus (first | (simp; exact Eq.refl _) | exact Eq.refl _)); (focus ((repeat (((with_reducible refine runE_cons (e := ?_) (σ1 := ?_) (es := ?_) ?_ ?_ ?_); rotate_left 3; (focus (simp [*]; exact Eq.refl _)); (focus (simp; exact Eq.refl _))))); (exact runE_nil))); (focus (first | kernel_rfl | decide)))))
        ((refine post_ret (av := ?_) (by first | exact .inl rfl | exact .inr rfl) (show (Try.f32).results.toList = _ from by rw [Try.results32]) ?_ ?_); rotate_left; (focus (simp [retA, retL, ret1, lk, st, ldA, AV.cell]; rfl)); (try simp [*]))
  · have z1 := q1 (by omega)
    have z2 := q2 (by omega)
    clear hc
    by_cases h3 : 4096 < L.length + K.length
    · have hlt : (4096 : Int) < (L.length : Int) + K.length := by omega
      have hJ := joinA_no (joinE_3 z1 z2 h3) (by decide)
      repeat (first | with_reducible first | refine s_seq ?_ | refine k_seq ?_ | refine k_seq_ret ?_ | refine k_seq_exit ?_ | refine k_blk ?_ | refine k_blk_ret ?_ | refine k_blk_exit ?_ | refine k_lp_ret ?_ | refine k_lp_exit ?_ | refine ki_lp_ret ?_ | refine ki_lp_exit ?_ | refine s_block ?_ | refine sp_skip ?_ | refine sp_ret ?_ | refine sp_exit ?_ | ((with_reducible refine k_blk_out ?_ ?_); (focus decide)) | ((with_reducible refine s_cond_t ?_ ?_); (focus (simp [*]; done))) | ((with_reducible refine s_cond_f ?_ ?_); (focus (simp [*]; done))) | (focus ((with_reducible refine s_region2 (q := ?_) (σ' := ?_) TT_ok PT15_ok ?_ ?_ ?_); rotate_left 2; (focus (first | (simp; exact Eq.refl _) | exact Eq.refl _)); (focus ((repeat (((with_reducible refine runL_cons (σ1 := ?_) ?_ ?_); rotate_left; (focus (simp [*]; rfl))))); (exact runL_nil))))) | (focus ((with_reducible refine s_draw2 (q := ?_) (es := ?_) (σ' := ?_) prog_mixed TT_ok PT15_ok ?_ ?_ ?_ ?_); rotate_left 3; (focus (first | (simp; exact Eq.refl _) | exact Eq.refl _)); (focus ((repeat (((with_reducible refine runE_cons (e := ?_) (σ1 := ?_) (es := ?_) ?_ ?_ ?_); rotate_left 3; (focus (simp [*]; exact Eq.refl _)); (focus (simp; exact Eq.refl _))))); (exact runE_nil))); (focus (first | kernel_rfl | decide)))))
      ((refine post_ret (av := ?_) (by first | exact .inl rfl | exact .inr rfl) (show (Try.f32).results.toList = _ from by rw [Try.results32]) ?_ ?_); rotate_left; (focus (simp [retA, retL, ret1, lk, st, ldA, AV.cell]; rfl)); (try simp [*]))
    · have hlt : ¬ (4096 : Int) < (L.length : Int) + K.length := by omega
      have hJ := joinA_ok z1 z2 h3
      have hcc := concat_p L K (by omega)
      repeat (first | with_reducible first | refine s_seq ?_ | refine k_seq ?_ | refine k_seq_ret ?_ | refine k_seq_exit ?_ | refine k_blk ?_ | refine k_blk_ret ?_ | refine k_blk_exit ?_ | refine k_lp_ret ?_ | refine k_lp_exit ?_ | refine ki_lp_ret ?_ | refine ki_lp_exit ?_ | refine s_block ?_ | refine sp_skip ?_ | refine sp_ret ?_ | refine sp_exit ?_ | ((with_reducible refine k_blk_out ?_ ?_); (focus decide)) | ((with_reducible refine s_cond_t ?_ ?_); (focus (simp [*]; done))) | ((with_reducible refine s_cond_f ?_ ?_); (focus (simp [*]; done))) | (focus ((with_reducible refine s_region2 (q := ?_) (σ' := ?_) TT_ok PT15_ok ?_ ?_ ?_); rotate_left 2; (focus (first | (simp; exact Eq.refl _) | exact Eq.refl _)); (focus ((repeat (((with_reducible refine runL_cons (σ1 := ?_) ?_ ?_); rotate_left; (focus (simp [*]; rfl))))); (exact runL_nil))))) | (focus ((with_reducible refine s_draw2 (q := ?_) (es := ?_) (σ' := ?_) prog_mixed TT_ok PT15_ok ?_ ?_ ?_ ?_); rotate_left 3; (focus (first | (simp; exact Eq.refl _) | exact Eq.refl _)); (focus ((repeat (((with_reducible refine runE_cons (e := ?_) (σ1 := ?_) (es := ?_) ?_ ?_ ?_); rotate_left 3; (focus (simp [*]; exact Eq.refl _)); (focus (simp; exact Eq.refl _))))); (exact runE_nil))); (focus (first | kernel_rfl | decide)))))
      refine s_regionL ?_
      ((iterate 4 (((with_reducible refine spl_step TT_ok PT15_ok (id := 0) (σ' := ?_) ?_ ?_); rotate_left; (focus (simp [*]; rfl))))))
      (((with_reducible refine spl_step TT_ok PT15_ok (id := 17) (σ' := ?_) ?_ ?_); rotate_left; (focus (simp [*]; rfl))))
      refine spl_frz (fun k => k == 17 || k == 5) ?_
      (refine spl_eq (τ := ?_) ?_ ?_; rotate_left; (focus ((try simp only [AS.frz, List.map_cons, List.map_nil]); (try simp [frzV, frzO, frzC, List.filter]); rfl)))
      refine spl_op rfl rfl (ok_call (f := 57) (avs := [.sl 1 [[aRows L], [aRows K]]]) (enters_ok (avs := [.sl 1 [[aRows L], [aRows K]]]) (cs := []) rfl (by kernel_rfl) rfl rfl) (by simp [idsL, AV.ids, idsLL]) hcc) ?_
      have hlen : (L ++ K).length = L.length + K.length := List.length_append
      have hXr : okRows (L ++ K) = true := by
        simp only [okRows, Bool.and_eq_true, decide_eq_true_eq, List.all_append] at hL hK ⊢
        exact ⟨⟨hL.1, hK.1⟩, by omega⟩
      have hXl : (L ++ K).length ≤ 4096 := by omega
      clear hlen hcc
      generalize L ++ K = X at *
      ((iterate 2 (((with_reducible refine spl_step TT_ok PT15_ok (id := 0) (σ' := ?_) ?_ ?_); rotate_left; (focus (simp [*]; rfl))))))
      refine spl_nil ?_
      refine k_seq ?_
      refine s_cnil 12 0 1 40 38 1 rfl rfl (by simp [AS.put, AS.upd, updI]) ?_ (by decide)
      (refine s_eq (τ := ?_) ?_ ?_; rotate_left; (focus ((try simp only [AS.frz, List.map_cons, List.map_nil]); (try simp [frzV, frzO, frzC, List.filter]); rfl)))
      repeat (first | with_reducible first | refine s_seq ?_ | refine k_seq ?_ | refine k_seq_ret ?_ | refine k_seq_exit ?_ | refine k_blk ?_ | refine k_blk_ret ?_ | refine k_blk_exit ?_ | refine k_lp_ret ?_ | refine k_lp_exit ?_ | refine ki_lp_ret ?_ | refine ki_lp_exit ?_ | refine s_block ?_ | refine sp_skip ?_ | refine sp_ret ?_ | refine sp_exit ?_ | ((with_reducible refine k_blk_out ?_ ?_); (focus decide)) | ((with_reducible refine s_cond_t ?_ ?_); (focus (simp [*]; done))) | ((with_reducible refine s_cond_f ?_ ?_); (focus (simp [*]; done))) | (focus ((with_reducible refine s_region2 (q := ?_) (σ' := ?_) TT_ok PT15_ok ?_ ?_ ?_); rotate_left 2; (focus (first | (simp; exact Eq.refl _) | exact Eq.refl _)); (focus ((repeat (((with_reducible refine runL_cons (σ1 := ?_) ?_ ?_); rotate_left; (focus (simp [*]; rfl))))); (exact runL_nil))))) | (focus ((with_reducible refine s_draw2 (q := ?_) (es := ?_) (σ' := ?_) prog_mixed TT_ok PT15_ok ?_ ?_ ?_ ?_); rotate_left 3; (focus (first | (simp; exact Eq.refl _) | exact Eq.refl _)); (focus ((repeat (((with_reducible refine runE_cons (e := ?_) (σ1 := ?_) (es := ?_) ?_ ?_ ?_); rotate_left 3; (focus (simp [*]; exact Eq.refl _)); (focus (simp; exact Eq.refl _))))); (exact runE_nil))); (focus (first | kernel_rfl | decide)))))
      refine s_loop (J := fun i : {k : Nat // k ≤ X.length} => ⟨62, [(4, .ptr 2 0 0), (5, .v (.int .i64 0)), (9, .ptr 12 0 0), (47, aRows X), (48, .v (.int .i64 (X.length : Int))), (49, .v (.int .i64 (i.1 : Int)))], [(40, ⟨38, 1, (tkL X i.1).map fun xs => [aInts xs]⟩), (2, ⟨24, 2, [[.v (.int .i64 0), .v (.slice none 0 0)]]⟩), (12, ⟨24, 2, [[.v (.int .i64 (if N < M then M else N)), .ref 40 0 i.1]]⟩)], [40, 12, 2]⟩) (μ := fun i => X.length - i.1) ⟨0, Nat.zero_le _⟩ ?_ (fun ⟨k, hk⟩ => ?_)
      · have hk0 := tkL_zero X
        (refine weak_id rfl ?_ ?_ <;> ((try simp only [List.mem_cons, List.not_mem_nil, or_false, forall_eq_or_imp, forall_eq]); (try simp (disch := omega) [i64w, *])))
      have hkl := tkL_len hk
      have c1 : (k + 1) * 24 ≤ 140737488355328 := by omega
      repeat (first | with_reducible first | refine s_seq ?_ | refine k_seq ?_ | refine k_seq_ret ?_ | refine k_seq_exit ?_ | refine k_blk ?_ | refine k_blk_ret ?_ | refine k_blk_exit ?_ | refine k_lp_ret ?_ | refine k_lp_exit ?_ | refine ki_lp_ret ?_ | refine ki_lp_exit ?_ | refine s_block ?_ | refine sp_skip ?_ | refine sp_ret ?_ | refine sp_exit ?_ | ((with_reducible refine k_blk_out ?_ ?_); (focus decide)) | ((with_reducible refine s_cond_t ?_ ?_); (focus (simp [*]; done))) | ((with_reducible refine s_cond_f ?_ ?_); (focus (simp [*]; done))) | (focus ((with_reducible refine s_region2 (q := ?_) (σ' := ?_) TT_ok PT15_ok ?_ ?_ ?_); rotate_left 2; (focus (first | (simp; exact Eq.refl _) | exact Eq.refl _)); (focus ((repeat (((with_reducible refine runL_cons (σ1 := ?_) ?_ ?_); rotate_left; (focus (simp [*]; rfl))))); (exact runL_nil))))) | (focus ((with_reducible refine s_draw2 (q := ?_) (es := ?_) (σ' := ?_) prog_mixed TT_ok PT15_ok ?_ ?_ ?_ ?_); rotate_left 3; (focus (first | (simp; exact Eq.refl _) | exact Eq.refl _)); (focus ((repeat (((with_reducible refine runE_cons (e := ?_) (σ1 := ?_) (es := ?_) ?_ ?_ ?_); rotate_left 3; (focus (simp [*]; exact Eq.refl _)); (focus (simp; exact Eq.refl _))))); (exact runE_nil))); (focus (first | kernel_rfl | decide)))))
      (focus ((with_reducible refine sp_cond (b := ?_) ?_ (fun hc => ?_) (fun hc => ?_)); rotate_left; (focus (first | rfl | (simp [lk, AS.ev]; rfl))); all_goals (try simp at hc)))
      · have hts := tkL_succ (X := X) (k := k) (by omega)
        have hci := okRows_at hXr k
        repeat (first | with_reducible first | refine s_seq ?_ | refine k_seq ?_ | refine k_seq_ret ?_ | refine k_seq_exit ?_ | refine k_blk ?_ | refine k_blk_ret ?_ | refine k_blk_exit ?_ | refine k_lp_ret ?_ | refine k_lp_exit ?_ | refine ki_lp_ret ?_ | refine ki_lp_exit ?_ | refine s_block ?_ | refine sp_skip ?_ | refine sp_ret ?_ | refine sp_exit ?_ | ((with_reducible refine k_blk_out ?_ ?_); (focus decide)) | ((with_reducible refine s_cond_t ?_ ?_); (focus (simp [*]; done))) | ((with_reducible refine s_cond_f ?_ ?_); (focus (simp [*]; done))) | (focus ((with_reducible refine s_region2 (q := ?_) (σ' := ?_) TT_ok PT15_ok ?_ ?_ ?_); rotate_left 2; (focus (first | (simp; exact Eq.refl _) | exact Eq.refl _)); (focus ((repeat (((with_reducible refine runL_cons (σ1 := ?_) ?_ ?_); rotate_left; (focus (simp [*]; rfl))))); (exact runL_nil))))) | (focus ((with_reducible refine s_draw2 (q := ?_) (es := ?_) (σ' := ?_) prog_mixed TT_ok PT15_ok ?_ ?_ ?_ ?_); rotate_left 3; (focus (first | (simp; exact Eq.refl _) | exact Eq.refl _)); (focus ((repeat (((with_reducible refine runE_cons (e := ?_) (σ1 := ?_) (es := ?_) ?_ ?_ ?_); rotate_left 3; (focus (simp [*]; exact Eq.refl _)); (focus (simp; exact Eq.refl _))))); (exact runE_nil))); (focus (first | kernel_rfl | decide)))))
        refine k_lp (⟨k + 1, by omega⟩ : {k : Nat // k ≤ X.length}) (by dsimp only; omega) ?_
        (refine weak_of (fun k => if k = 40 then 46 else k) ⟨rfl, ?_, ?_, ?_⟩ <;> ((try simp only [List.mem_cons, List.not_mem_nil, or_false, forall_eq_or_imp, forall_eq]); (try simp (disch := omega) [lk, AV.ids, idsL, idsLL, AV.ren, renL, renLL, i64w, *])))
      · obtain rfl : k = X.length := by omega
        rw [tkL_all]
        refine s_frz (fun k => k == 40) ?_
        (refine s_eq (τ := ?_) ?_ ?_; rotate_left; (focus ((try simp only [AS.frz, List.map_cons, List.map_nil]); (try simp [frzV, frzO, frzC, List.filter]); rfl)))
        repeat (first | with_reducible first | refine s_seq ?_ | refine k_seq ?_ | refine k_seq_ret ?_ | refine k_seq_exit ?_ | refine k_blk ?_ | refine k_blk_ret ?_ | refine k_blk_exit ?_ | refine k_lp_ret ?_ | refine k_lp_exit ?_ | refine ki_lp_ret ?_ | refine ki_lp_exit ?_ | refine s_block ?_ | refine sp_skip ?_ | refine sp_ret ?_ | refine sp_exit ?_ | ((with_reducible refine k_blk_out ?_ ?_); (focus decide)) | ((with_reducible refine s_cond_t ?_ ?_); (focus (simp [*]; done))) | ((with_reducible refine s_cond_f ?_ ?_); (focus (simp [*]; done))) | (focus ((with_reducible refine s_region2 (q := ?_) (σ' := ?_) TT_ok PT15_ok ?_ ?_ ?_); rotate_left 2; (focus (first | (simp; exact Eq.refl _) | exact Eq.refl _)); (focus ((repeat (((with_reducible refine runL_cons (σ1 := ?_) ?_ ?_); rotate_left; (focus (simp [*]; rfl))))); (exact runL_nil))))) | (focus ((with_reducible refine s_draw2 (q := ?_) (es := ?_) (σ' := ?_) prog_mixed TT_ok PT15_ok ?_ ?_ ?_ ?_); rotate_left 3; (focus (first | (simp; exact Eq.refl _) | exact Eq.refl _)); (focus ((repeat (((with_reducible refine runE_cons (e := ?_) (σ1 := ?_) (es := ?_) ?_ ?_ ?_); rotate_left 3; (focus (simp [*]; exact Eq.refl _)); (focus (simp; exact Eq.refl _))))); (exact runE_nil))); (focus (first | kernel_rfl | decide)))))
        ((refine post_ret (av := ?_) (by first | exact .inl rfl | exact .inr rfl) (show (Try.f32).results.toList = _ from by rw [Try.results32]) ?_ ?_); rotate_left; (focus (simp [retA, retL, ret1, lk, st, ldA, AV.cell]; rfl)); (try simp [*]))
@[simp ↓ high] theorem d_frz_app (σ : AS) (D : Nat → Bool) (L : List (List Int)) (a : AV) : ((L.map fun xs => [aInts xs]) ++ [[a]]).map (fun r => r.map (frzC σ D)) = (L.map fun xs => [aInts xs]) ++ [[frzC σ D a]] := by
  rw [List.map_append, List.map_map]
  congr 1
  refine List.map_congr_left fun xs _ => ?_
  show [frzC σ D (aInts xs)] = [aInts xs]
  unfold frzC
  rw [d_shut1_ints]; rfl
@[simp ↓ high] theorem d_frzC_ints (σ : AS) (D : Nat → Bool) (xs : List Int) : frzC σ D (aInts xs) = aInts xs := by
  unfold frzC
  rw [d_shut1_ints]; rfl
/-- All of one list and the first k of another. -/
def jnK (L K : List (List Int)) (k : Nat) : List (List Int) := L ++ tkL K k
theorem jnK_zero (L K : List (List Int)) : jnK L K 0 = L := by unfold jnK; rw [tkL_zero, List.append_nil]
theorem jnK_succ (L : List (List Int)) {K : List (List Int)} {k : Nat} (h : k < K.length) : jnK L K (k + 1) = jnK L K k ++ [K.getD k []] := by unfold jnK; rw [tkL_succ h, List.append_assoc]
theorem jnK_len (L : List (List Int)) {K : List (List Int)} {k : Nat} (h : k ≤ K.length) : (jnK L K k).length = L.length + k := by unfold jnK; rw [List.length_append, tkL_len h]
theorem jnK_all (L K : List (List Int)) : jnK L K K.length = L ++ K := by unfold jnK; rw [tkL_all]
set_option maxHeartbeats 20000000 in
theorem rJoin_p (N : Int) (L : List (List Int)) (M : Int) (K : List (List Int)) (hN : okI N = true) (hM : okI M = true) (hL : okRows L = true) (hK : okRows K = true) : FnPure Try.prog 33 [aTh N L, aTh M K] (joinA N L M K) := by
  have l1 := okRows_len hL
  have l2 := okRows_len hK
  have ws : IntKind.i64.wrap ((L.length : Int) + K.length) = (L.length : Int) + K.length := i64w (by omega) (by omega)
  unfold aTh
  by_cases z1 : checkT N L = 0
  · by_cases z2 : checkT M K = 0
    · by_cases h3 : 4096 < L.length + K.length
      · have hlt : (4096 : Int) < (L.length : Int) + K.length := by omega
        have hJ := joinA_no (joinE_3 z1 z2 h3) (by decide)
        refine fn_sp TT_ok Try.func33 (c := _) rfl (by simp [Try.ntmps33]) (fun B hI0 hro => ?_)
        rw [Try.ntmps33]
        simp only [enumA]
        repeat (first | with_reducible first | refine s_seq ?_ | refine k_seq ?_ | refine k_seq_ret ?_ | refine k_seq_exit ?_ | refine k_blk ?_ | refine k_blk_ret ?_ | refine k_blk_exit ?_ | refine k_lp_ret ?_ | refine k_lp_exit ?_ | refine ki_lp_ret ?_ | refine ki_lp_exit ?_ | refine s_block ?_ | refine sp_skip ?_ | refine sp_ret ?_ | refine sp_exit ?_ | ((with_reducible refine k_blk_out ?_ ?_); (focus decide)) | ((with_reducible refine s_cond_t ?_ ?_); (focus (simp [*]; done))) | ((with_reducible refine s_cond_f ?_ ?_); (focus (simp [*]; done))) | (focus ((with_reducible refine s_region2 (q := ?_) (σ' := ?_) TT_ok PT15_ok ?_ ?_ ?_); rotate_left 2; (focus (first | (simp; exact Eq.refl _) | exact Eq.refl _)); (focus ((repeat (((with_reducible refine runL_cons (σ1 := ?_) ?_ ?_); rotate_left; (focus (simp [*]; rfl))))); (exact runL_nil))))) | (focus ((with_reducible refine s_draw2 (q := ?_) (es := ?_) (σ' := ?_) prog_mixed TT_ok PT15_ok ?_ ?_ ?_ ?_); rotate_left 3; (focus (first | (simp; exact Eq.refl _) | exact Eq.refl _)); (focus ((repeat (((with_reducible refine runE_cons (e := ?_) (σ1 := ?_) (es := ?_) ?_ ?_ ?_); rotate_left 3; (focus (simp [*]; exact Eq.refl _)); (focus (simp; exact Eq.refl _))))); (exact runE_nil))); (focus (first | kernel_rfl | decide)))))
        ((refine post_ret (av := ?_) (by first | exact .inl rfl | exact .inr rfl) (show (Try.f33).results.toList = _ from by rw [Try.results33]) ?_ ?_); rotate_left; (focus (simp [retA, retL, ret1, lk, st, ldA, AV.cell]; rfl)); (try simp [*]))
      · have hlt : ¬ (4096 : Int) < (L.length : Int) + K.length := by omega
        have hJ := joinA_ok z1 z2 h3
        refine fn_sp TT_ok Try.func33 (c := _) rfl (by simp [Try.ntmps33]) (fun B hI0 hro => ?_)
        rw [Try.ntmps33]
        simp only [enumA]
        repeat (first | with_reducible first | refine s_seq ?_ | refine k_seq ?_ | refine k_seq_ret ?_ | refine k_seq_exit ?_ | refine k_blk ?_ | refine k_blk_ret ?_ | refine k_blk_exit ?_ | refine k_lp_ret ?_ | refine k_lp_exit ?_ | refine ki_lp_ret ?_ | refine ki_lp_exit ?_ | refine s_block ?_ | refine sp_skip ?_ | refine sp_ret ?_ | refine sp_exit ?_ | ((with_reducible refine k_blk_out ?_ ?_); (focus decide)) | ((with_reducible refine s_cond_t ?_ ?_); (focus (simp [*]; done))) | ((with_reducible refine s_cond_f ?_ ?_); (focus (simp [*]; done))) | (focus ((with_reducible refine s_region2 (q := ?_) (σ' := ?_) TT_ok PT15_ok ?_ ?_ ?_); rotate_left 2; (focus (first | (simp; exact Eq.refl _) | exact Eq.refl _)); (focus ((repeat (((with_reducible refine runL_cons (σ1 := ?_) ?_ ?_); rotate_left; (focus (simp [*]; rfl))))); (exact runL_nil))))) | (focus ((with_reducible refine s_draw2 (q := ?_) (es := ?_) (σ' := ?_) prog_mixed TT_ok PT15_ok ?_ ?_ ?_ ?_); rotate_left 3; (focus (first | (simp; exact Eq.refl _) | exact Eq.refl _)); (focus ((repeat (((with_reducible refine runE_cons (e := ?_) (σ1 := ?_) (es := ?_) ?_ ?_ ?_); rotate_left 3; (focus (simp [*]; exact Eq.refl _)); (focus (simp; exact Eq.refl _))))); (exact runE_nil))); (focus (first | kernel_rfl | decide)))))
        refine s_cnil 9 0 1 40 38 1 rfl rfl (by simp [AS.put, AS.upd, updI]) ?_ (by decide)
        (refine s_eq (τ := ?_) ?_ ?_; rotate_left; (focus ((try simp only [AS.frz, List.map_cons, List.map_nil]); (try simp [frzV, frzO, frzC, List.filter]); rfl)))
        refine s_loop (J := fun i : {k : Nat // k ≤ L.length} => ⟨77, [(2, .ptr 0 0 0), (3, .ptr 1 0 0), (4, .ptr 2 0 0), (5, .v (.int .i64 0)), (7, .ptr 9 0 0), (8, .v (.int .i64 (i.1 : Int)))], [(40, ⟨38, 1, (tkL L i.1).map fun xs => [aInts xs]⟩), (0, ⟨24, 2, [[.v (.int .i64 N), aRows L]]⟩), (1, ⟨24, 2, [[.v (.int .i64 M), aRows K]]⟩), (2, ⟨24, 2, [[.v (.int .i64 0), .v (.slice none 0 0)]]⟩), (9, ⟨24, 2, [[.v (.int .i64 (if N < M then M else N)), .ref 40 0 i.1]]⟩)], [40, 9, 2, 1, 0]⟩) (μ := fun i => L.length - i.1) ⟨0, Nat.zero_le _⟩ ?_ (fun ⟨k, hk⟩ => ?_)
        · have hk0 := tkL_zero L
          (refine weak_id rfl ?_ ?_ <;> ((try simp only [List.mem_cons, List.not_mem_nil, or_false, forall_eq_or_imp, forall_eq]); (try simp (disch := omega) [i64w, *])))
        have hkl := tkL_len hk
        have c1 : (k + 1) * 24 ≤ 140737488355328 := by omega
        repeat (first | with_reducible first | refine s_seq ?_ | refine k_seq ?_ | refine k_seq_ret ?_ | refine k_seq_exit ?_ | refine k_blk ?_ | refine k_blk_ret ?_ | refine k_blk_exit ?_ | refine k_lp_ret ?_ | refine k_lp_exit ?_ | refine ki_lp_ret ?_ | refine ki_lp_exit ?_ | refine s_block ?_ | refine sp_skip ?_ | refine sp_ret ?_ | refine sp_exit ?_ | ((with_reducible refine k_blk_out ?_ ?_); (focus decide)) | ((with_reducible refine s_cond_t ?_ ?_); (focus (simp [*]; done))) | ((with_reducible refine s_cond_f ?_ ?_); (focus (simp [*]; done))) | (focus ((with_reducible refine s_region2 (q := ?_) (σ' := ?_) TT_ok PT15_ok ?_ ?_ ?_); rotate_left 2; (focus (first | (simp; exact Eq.refl _) | exact Eq.refl _)); (focus ((repeat (((with_reducible refine runL_cons (σ1 := ?_) ?_ ?_); rotate_left; (focus (simp [*]; rfl))))); (exact runL_nil))))) | (focus ((with_reducible refine s_draw2 (q := ?_) (es := ?_) (σ' := ?_) prog_mixed TT_ok PT15_ok ?_ ?_ ?_ ?_); rotate_left 3; (focus (first | (simp; exact Eq.refl _) | exact Eq.refl _)); (focus ((repeat (((with_reducible refine runE_cons (e := ?_) (σ1 := ?_) (es := ?_) ?_ ?_ ?_); rotate_left 3; (focus (simp [*]; exact Eq.refl _)); (focus (simp; exact Eq.refl _))))); (exact runE_nil))); (focus (first | kernel_rfl | decide)))))
        (focus ((with_reducible refine sp_cond (b := ?_) ?_ (fun hc => ?_) (fun hc => ?_)); rotate_left; (focus (first | rfl | (simp [lk, AS.ev]; rfl))); all_goals (try simp at hc)))
        · have hkk := hc
          clear hc
          have hts := tkL_succ hkk
          have hci := okRows_at hL k
          have hcl := okInts_len hci
          have c2 : (L.getD k []).length * 8 ≤ 140737488355328 := by omega
          repeat (first
            | with_reducible refine s_seq ?_
            | with_reducible refine k_seq ?_
            | with_reducible refine k_seq_ret ?_
            | with_reducible refine k_seq_exit ?_
            | with_reducible refine k_blk ?_
            | with_reducible refine k_blk_ret ?_
            | with_reducible refine k_blk_exit ?_
            | ((with_reducible refine k_blk_out ?_ ?_); (focus decide))
            | with_reducible refine k_lp_ret ?_
            | with_reducible refine k_lp_exit ?_
            | with_reducible refine ki_lp_ret ?_
            | with_reducible refine ki_lp_exit ?_
            | with_reducible refine s_block ?_
            | with_reducible refine sp_skip ?_
            | with_reducible refine sp_ret ?_
            | with_reducible refine sp_exit ?_
            | ((with_reducible refine s_cond_t ?_ ?_); (focus (simp [*]; done)))
            | ((with_reducible refine s_cond_f ?_ ?_); (focus (simp [*]; done))))
          (focus ((with_reducible refine s_draw2 (q := ?_) (es := ?_) (σ' := ?_) prog_mixed TT_ok PT15_ok ?_ ?_ ?_ ?_); rotate_left 3; (focus (first | (simp; exact Eq.refl _) | exact Eq.refl _)); (focus ((repeat (((with_reducible refine runE_cons (e := ?_) (σ1 := ?_) (es := ?_) ?_ ?_ ?_); rotate_left 3; (focus (simp [*]; exact Eq.refl _)); (focus (simp; exact Eq.refl _))))); (exact runE_nil))); (focus (first | kernel_rfl | decide))))
          repeat (first
            | with_reducible refine s_seq ?_
            | with_reducible refine k_seq ?_
            | with_reducible refine k_seq_ret ?_
            | with_reducible refine k_seq_exit ?_
            | with_reducible refine k_blk ?_
            | with_reducible refine k_blk_ret ?_
            | with_reducible refine k_blk_exit ?_
            | ((with_reducible refine k_blk_out ?_ ?_); (focus decide))
            | with_reducible refine k_lp_ret ?_
            | with_reducible refine k_lp_exit ?_
            | with_reducible refine ki_lp_ret ?_
            | with_reducible refine ki_lp_exit ?_
            | with_reducible refine s_block ?_
            | with_reducible refine sp_skip ?_
            | with_reducible refine sp_ret ?_
            | with_reducible refine sp_exit ?_
            | ((with_reducible refine s_cond_t ?_ ?_); (focus (simp [*]; done)))
            | ((with_reducible refine s_cond_f ?_ ?_); (focus (simp [*]; done))))
          refine s_frz (fun k => k == 49 || k == 50) ?_
          (refine s_eq (τ := ?_) ?_ ?_; rotate_left; (focus ((try simp only [AS.frz, List.map_cons, List.map_nil]); (try simp [frzV, frzO, frzC, List.filter]); rfl)))
          repeat (first | with_reducible first | refine s_seq ?_ | refine k_seq ?_ | refine k_seq_ret ?_ | refine k_seq_exit ?_ | refine k_blk ?_ | refine k_blk_ret ?_ | refine k_blk_exit ?_ | refine k_lp_ret ?_ | refine k_lp_exit ?_ | refine ki_lp_ret ?_ | refine ki_lp_exit ?_ | refine s_block ?_ | refine sp_skip ?_ | refine sp_ret ?_ | refine sp_exit ?_ | ((with_reducible refine k_blk_out ?_ ?_); (focus decide)) | ((with_reducible refine s_cond_t ?_ ?_); (focus (simp [*]; done))) | ((with_reducible refine s_cond_f ?_ ?_); (focus (simp [*]; done))) | (focus ((with_reducible refine s_region2 (q := ?_) (σ' := ?_) TT_ok PT15_ok ?_ ?_ ?_); rotate_left 2; (focus (first | (simp; exact Eq.refl _) | exact Eq.refl _)); (focus ((repeat (((with_reducible refine runL_cons (σ1 := ?_) ?_ ?_); rotate_left; (focus (simp [*]; rfl))))); (exact runL_nil))))) | (focus ((with_reducible refine s_draw2 (q := ?_) (es := ?_) (σ' := ?_) prog_mixed TT_ok PT15_ok ?_ ?_ ?_ ?_); rotate_left 3; (focus (first | (simp; exact Eq.refl _) | exact Eq.refl _)); (focus ((repeat (((with_reducible refine runE_cons (e := ?_) (σ1 := ?_) (es := ?_) ?_ ?_ ?_); rotate_left 3; (focus (simp [*]; exact Eq.refl _)); (focus (simp; exact Eq.refl _))))); (exact runE_nil))); (focus (first | kernel_rfl | decide)))))
          refine k_lp (⟨k + 1, by omega⟩ : {k : Nat // k ≤ L.length}) (by dsimp only; omega) ?_
          (refine weak_of (fun k => if k = 40 then 51 else k) ⟨rfl, ?_, ?_, ?_⟩ <;> ((try simp only [List.mem_cons, List.not_mem_nil, or_false, forall_eq_or_imp, forall_eq]); (try simp (disch := omega) [lk, AV.ids, idsL, idsLL, AV.ren, renL, renLL, i64w, *])))
        · obtain rfl : k = L.length := by omega
          rw [tkL_all]
          clear hc hkl c1
          repeat (first | with_reducible first | refine s_seq ?_ | refine k_seq ?_ | refine k_seq_ret ?_ | refine k_seq_exit ?_ | refine k_blk ?_ | refine k_blk_ret ?_ | refine k_blk_exit ?_ | refine k_lp_ret ?_ | refine k_lp_exit ?_ | refine ki_lp_ret ?_ | refine ki_lp_exit ?_ | refine s_block ?_ | refine sp_skip ?_ | refine sp_ret ?_ | refine sp_exit ?_ | ((with_reducible refine k_blk_out ?_ ?_); (focus decide)) | ((with_reducible refine s_cond_t ?_ ?_); (focus (simp [*]; done))) | ((with_reducible refine s_cond_f ?_ ?_); (focus (simp [*]; done))) | (focus ((with_reducible refine s_region2 (q := ?_) (σ' := ?_) TT_ok PT15_ok ?_ ?_ ?_); rotate_left 2; (focus (first | (simp; exact Eq.refl _) | exact Eq.refl _)); (focus ((repeat (((with_reducible refine runL_cons (σ1 := ?_) ?_ ?_); rotate_left; (focus (simp [*]; rfl))))); (exact runL_nil))))) | (focus ((with_reducible refine s_draw2 (q := ?_) (es := ?_) (σ' := ?_) prog_mixed TT_ok PT15_ok ?_ ?_ ?_ ?_); rotate_left 3; (focus (first | (simp; exact Eq.refl _) | exact Eq.refl _)); (focus ((repeat (((with_reducible refine runE_cons (e := ?_) (σ1 := ?_) (es := ?_) ?_ ?_ ?_); rotate_left 3; (focus (simp [*]; exact Eq.refl _)); (focus (simp; exact Eq.refl _))))); (exact runE_nil))); (focus (first | kernel_rfl | decide)))))
          refine s_loop (J := fun i : {k : Nat // k ≤ K.length} => ⟨77, [(3, .ptr 1 0 0), (4, .ptr 2 0 0), (5, .v (.int .i64 0)), (7, .ptr 9 0 0), (9, .v (.int .i64 (i.1 : Int)))], [(40, ⟨38, 1, (jnK L K i.1).map fun xs => [aInts xs]⟩), (1, ⟨24, 2, [[.v (.int .i64 M), aRows K]]⟩), (2, ⟨24, 2, [[.v (.int .i64 0), .v (.slice none 0 0)]]⟩), (9, ⟨24, 2, [[.v (.int .i64 (if N < M then M else N)), .ref 40 0 (L.length + i.1)]]⟩)], [40, 9, 2, 1]⟩) (μ := fun i => K.length - i.1) ⟨0, Nat.zero_le _⟩ ?_ (fun ⟨k, hk⟩ => ?_)
          · have hk0 := jnK_zero L K
            (refine weak_id rfl ?_ ?_ <;> ((try simp only [List.mem_cons, List.not_mem_nil, or_false, forall_eq_or_imp, forall_eq]); (try simp (disch := omega) [i64w, *])))
          have hkl := jnK_len L hk
          have c1 : (L.length + k + 1) * 24 ≤ 140737488355328 := by omega
          repeat (first | with_reducible first | refine s_seq ?_ | refine k_seq ?_ | refine k_seq_ret ?_ | refine k_seq_exit ?_ | refine k_blk ?_ | refine k_blk_ret ?_ | refine k_blk_exit ?_ | refine k_lp_ret ?_ | refine k_lp_exit ?_ | refine ki_lp_ret ?_ | refine ki_lp_exit ?_ | refine s_block ?_ | refine sp_skip ?_ | refine sp_ret ?_ | refine sp_exit ?_ | ((with_reducible refine k_blk_out ?_ ?_); (focus decide)) | ((with_reducible refine s_cond_t ?_ ?_); (focus (simp [*]; done))) | ((with_reducible refine s_cond_f ?_ ?_); (focus (simp [*]; done))) | (focus ((with_reducible refine s_region2 (q := ?_) (σ' := ?_) TT_ok PT15_ok ?_ ?_ ?_); rotate_left 2; (focus (first | (simp; exact Eq.refl _) | exact Eq.refl _)); (focus ((repeat (((with_reducible refine runL_cons (σ1 := ?_) ?_ ?_); rotate_left; (focus (simp [*]; rfl))))); (exact runL_nil))))) | (focus ((with_reducible refine s_draw2 (q := ?_) (es := ?_) (σ' := ?_) prog_mixed TT_ok PT15_ok ?_ ?_ ?_ ?_); rotate_left 3; (focus (first | (simp; exact Eq.refl _) | exact Eq.refl _)); (focus ((repeat (((with_reducible refine runE_cons (e := ?_) (σ1 := ?_) (es := ?_) ?_ ?_ ?_); rotate_left 3; (focus (simp [*]; exact Eq.refl _)); (focus (simp; exact Eq.refl _))))); (exact runE_nil))); (focus (first | kernel_rfl | decide)))))
          (focus ((with_reducible refine sp_cond (b := ?_) ?_ (fun hc => ?_) (fun hc => ?_)); rotate_left; (focus (first | rfl | (simp [lk, AS.ev]; rfl))); all_goals (try simp at hc)))
          · have hkk := hc
            clear hc
            have hts := jnK_succ L hkk
            have hci := okRows_at hK k
            have hcl := okInts_len hci
            have c2 : (K.getD k []).length * 8 ≤ 140737488355328 := by omega
            repeat (first
              | with_reducible refine s_seq ?_
              | with_reducible refine k_seq ?_
              | with_reducible refine k_seq_ret ?_
              | with_reducible refine k_seq_exit ?_
              | with_reducible refine k_blk ?_
              | with_reducible refine k_blk_ret ?_
              | with_reducible refine k_blk_exit ?_
              | ((with_reducible refine k_blk_out ?_ ?_); (focus decide))
              | with_reducible refine k_lp_ret ?_
              | with_reducible refine k_lp_exit ?_
              | with_reducible refine ki_lp_ret ?_
              | with_reducible refine ki_lp_exit ?_
              | with_reducible refine s_block ?_
              | with_reducible refine sp_skip ?_
              | with_reducible refine sp_ret ?_
              | with_reducible refine sp_exit ?_
              | ((with_reducible refine s_cond_t ?_ ?_); (focus (simp [*]; done)))
              | ((with_reducible refine s_cond_f ?_ ?_); (focus (simp [*]; done))))
            (focus ((with_reducible refine s_draw2 (q := ?_) (es := ?_) (σ' := ?_) prog_mixed TT_ok PT15_ok ?_ ?_ ?_ ?_); rotate_left 3; (focus (first | (simp; exact Eq.refl _) | exact Eq.refl _)); (focus ((repeat (((with_reducible refine runE_cons (e := ?_) (σ1 := ?_) (es := ?_) ?_ ?_ ?_); rotate_left 3; (focus (simp [*]; exact Eq.refl _)); (focus (simp; exact Eq.refl _))))); (exact runE_nil))); (focus (first | kernel_rfl | decide))))
            repeat (first
              | with_reducible refine s_seq ?_
              | with_reducible refine k_seq ?_
              | with_reducible refine k_seq_ret ?_
              | with_reducible refine k_seq_exit ?_
              | with_reducible refine k_blk ?_
              | with_reducible refine k_blk_ret ?_
              | with_reducible refine k_blk_exit ?_
              | ((with_reducible refine k_blk_out ?_ ?_); (focus decide))
              | with_reducible refine k_lp_ret ?_
              | with_reducible refine k_lp_exit ?_
              | with_reducible refine ki_lp_ret ?_
              | with_reducible refine ki_lp_exit ?_
              | with_reducible refine s_block ?_
              | with_reducible refine sp_skip ?_
              | with_reducible refine sp_ret ?_
              | with_reducible refine sp_exit ?_
              | ((with_reducible refine s_cond_t ?_ ?_); (focus (simp [*]; done)))
              | ((with_reducible refine s_cond_f ?_ ?_); (focus (simp [*]; done))))
            refine s_frz (fun k => k == 49 || k == 50) ?_
            (refine s_eq (τ := ?_) ?_ ?_; rotate_left; (focus ((try simp only [AS.frz, List.map_cons, List.map_nil]); (try simp [frzV, frzO, frzC, List.filter]); rfl)))
            repeat (first | with_reducible first | refine s_seq ?_ | refine k_seq ?_ | refine k_seq_ret ?_ | refine k_seq_exit ?_ | refine k_blk ?_ | refine k_blk_ret ?_ | refine k_blk_exit ?_ | refine k_lp_ret ?_ | refine k_lp_exit ?_ | refine ki_lp_ret ?_ | refine ki_lp_exit ?_ | refine s_block ?_ | refine sp_skip ?_ | refine sp_ret ?_ | refine sp_exit ?_ | ((with_reducible refine k_blk_out ?_ ?_); (focus decide)) | ((with_reducible refine s_cond_t ?_ ?_); (focus (simp [*]; done))) | ((with_reducible refine s_cond_f ?_ ?_); (focus (simp [*]; done))) | (focus ((with_reducible refine s_region2 (q := ?_) (σ' := ?_) TT_ok PT15_ok ?_ ?_ ?_); rotate_left 2; (focus (first | (simp; exact Eq.refl _) | exact Eq.refl _)); (focus ((repeat (((with_reducible refine runL_cons (σ1 := ?_) ?_ ?_); rotate_left; (focus (simp [*]; rfl))))); (exact runL_nil))))) | (focus ((with_reducible refine s_draw2 (q := ?_) (es := ?_) (σ' := ?_) prog_mixed TT_ok PT15_ok ?_ ?_ ?_ ?_); rotate_left 3; (focus (first | (simp; exact Eq.refl _) | exact Eq.refl _)); (focus ((repeat (((with_reducible refine runE_cons (e := ?_) (σ1 := ?_) (es := ?_) ?_ ?_ ?_); rotate_left 3; (focus (simp [*]; exact Eq.refl _)); (focus (simp; exact Eq.refl _))))); (exact runE_nil))); (focus (first | kernel_rfl | decide)))))
            refine k_lp (⟨k + 1, by omega⟩ : {k : Nat // k ≤ K.length}) (by dsimp only; omega) ?_
            (refine weak_of (fun k => if k = 40 then 51 else k) ⟨rfl, ?_, ?_, ?_⟩ <;> ((try simp only [List.mem_cons, List.not_mem_nil, or_false, forall_eq_or_imp, forall_eq]); (try simp (disch := omega) [lk, AV.ids, idsL, idsLL, AV.ren, renL, renLL, i64w, *])))
            all_goals omega
          · obtain rfl : k = K.length := by omega
            rw [jnK_all, ← List.length_append]
            clear hc hkl c1
            generalize L ++ K = X at hJ ⊢
            refine s_frz (fun k => k == 40) ?_
            (refine s_eq (τ := ?_) ?_ ?_; rotate_left; (focus ((try simp only [AS.frz, List.map_cons, List.map_nil]); (try simp [frzV, frzO, frzC, List.filter]); rfl)))
            repeat (first | with_reducible first | refine s_seq ?_ | refine k_seq ?_ | refine k_seq_ret ?_ | refine k_seq_exit ?_ | refine k_blk ?_ | refine k_blk_ret ?_ | refine k_blk_exit ?_ | refine k_lp_ret ?_ | refine k_lp_exit ?_ | refine ki_lp_ret ?_ | refine ki_lp_exit ?_ | refine s_block ?_ | refine sp_skip ?_ | refine sp_ret ?_ | refine sp_exit ?_ | ((with_reducible refine k_blk_out ?_ ?_); (focus decide)) | ((with_reducible refine s_cond_t ?_ ?_); (focus (simp [*]; done))) | ((with_reducible refine s_cond_f ?_ ?_); (focus (simp [*]; done))) | (focus ((with_reducible refine s_region2 (q := ?_) (σ' := ?_) TT_ok PT15_ok ?_ ?_ ?_); rotate_left 2; (focus (first | (simp; exact Eq.refl _) | exact Eq.refl _)); (focus ((repeat (((with_reducible refine runL_cons (σ1 := ?_) ?_ ?_); rotate_left; (focus (simp [*]; rfl))))); (exact runL_nil))))) | (focus ((with_reducible refine s_draw2 (q := ?_) (es := ?_) (σ' := ?_) prog_mixed TT_ok PT15_ok ?_ ?_ ?_ ?_); rotate_left 3; (focus (first | (simp; exact Eq.refl _) | exact Eq.refl _)); (focus ((repeat (((with_reducible refine runE_cons (e := ?_) (σ1 := ?_) (es := ?_) ?_ ?_ ?_); rotate_left 3; (focus (simp [*]; exact Eq.refl _)); (focus (simp; exact Eq.refl _))))); (exact runE_nil))); (focus (first | kernel_rfl | decide)))))
            ((refine post_ret (av := ?_) (by first | exact .inl rfl | exact .inr rfl) (show (Try.f33).results.toList = _ from by rw [Try.results33]) ?_ ?_); rotate_left; (focus (simp [retA, retL, ret1, lk, st, ldA, AV.cell]; rfl)); (try simp [*]))
    · have hz : (checkT M K != 0) = true := by simpa using z2
      have hz0 : (checkT M K == 0) = false := by simpa using z2
      have hJ := joinA_no (joinE_2 z1 z2) z2
      refine fn_sp TT_ok Try.func33 (c := _) rfl (by simp [Try.ntmps33]) (fun B hI0 hro => ?_)
      rw [Try.ntmps33]
      simp only [enumA]
      repeat (first | with_reducible first | refine s_seq ?_ | refine k_seq ?_ | refine k_seq_ret ?_ | refine k_seq_exit ?_ | refine k_blk ?_ | refine k_blk_ret ?_ | refine k_blk_exit ?_ | refine k_lp_ret ?_ | refine k_lp_exit ?_ | refine ki_lp_ret ?_ | refine ki_lp_exit ?_ | refine s_block ?_ | refine sp_skip ?_ | refine sp_ret ?_ | refine sp_exit ?_ | ((with_reducible refine k_blk_out ?_ ?_); (focus decide)) | ((with_reducible refine s_cond_t ?_ ?_); (focus (simp [*]; done))) | ((with_reducible refine s_cond_f ?_ ?_); (focus (simp [*]; done))) | (focus ((with_reducible refine s_region2 (q := ?_) (σ' := ?_) TT_ok PT15_ok ?_ ?_ ?_); rotate_left 2; (focus (first | (simp; exact Eq.refl _) | exact Eq.refl _)); (focus ((repeat (((with_reducible refine runL_cons (σ1 := ?_) ?_ ?_); rotate_left; (focus (simp [*]; rfl))))); (exact runL_nil))))) | (focus ((with_reducible refine s_draw2 (q := ?_) (es := ?_) (σ' := ?_) prog_mixed TT_ok PT15_ok ?_ ?_ ?_ ?_); rotate_left 3; (focus (first | (simp; exact Eq.refl _) | exact Eq.refl _)); (focus ((repeat (((with_reducible refine runE_cons (e := ?_) (σ1 := ?_) (es := ?_) ?_ ?_ ?_); rotate_left 3; (focus (simp [*]; exact Eq.refl _)); (focus (simp; exact Eq.refl _))))); (exact runE_nil))); (focus (first | kernel_rfl | decide)))))
      ((refine post_ret (av := ?_) (by first | exact .inl rfl | exact .inr rfl) (show (Try.f33).results.toList = _ from by rw [Try.results33]) ?_ ?_); rotate_left; (focus (simp [retA, retL, ret1, lk, st, ldA, AV.cell]; rfl)); (try simp [*]))
  · have hz : (checkT N L != 0) = true := by simpa using z1
    have hz0 : (checkT N L == 0) = false := by simpa using z1
    have hJ := joinA_no (joinE_1 (M := M) (K := K) z1) z1
    refine fn_sp TT_ok Try.func33 (c := _) rfl (by simp [Try.ntmps33]) (fun B hI0 hro => ?_)
    rw [Try.ntmps33]
    simp only [enumA]
    repeat (first | with_reducible first | refine s_seq ?_ | refine k_seq ?_ | refine k_seq_ret ?_ | refine k_seq_exit ?_ | refine k_blk ?_ | refine k_blk_ret ?_ | refine k_blk_exit ?_ | refine k_lp_ret ?_ | refine k_lp_exit ?_ | refine ki_lp_ret ?_ | refine ki_lp_exit ?_ | refine s_block ?_ | refine sp_skip ?_ | refine sp_ret ?_ | refine sp_exit ?_ | ((with_reducible refine k_blk_out ?_ ?_); (focus decide)) | ((with_reducible refine s_cond_t ?_ ?_); (focus (simp [*]; done))) | ((with_reducible refine s_cond_f ?_ ?_); (focus (simp [*]; done))) | (focus ((with_reducible refine s_region2 (q := ?_) (σ' := ?_) TT_ok PT15_ok ?_ ?_ ?_); rotate_left 2; (focus (first | (simp; exact Eq.refl _) | exact Eq.refl _)); (focus ((repeat (((with_reducible refine runL_cons (σ1 := ?_) ?_ ?_); rotate_left; (focus (simp [*]; rfl))))); (exact runL_nil))))) | (focus ((with_reducible refine s_draw2 (q := ?_) (es := ?_) (σ' := ?_) prog_mixed TT_ok PT15_ok ?_ ?_ ?_ ?_); rotate_left 3; (focus (first | (simp; exact Eq.refl _) | exact Eq.refl _)); (focus ((repeat (((with_reducible refine runE_cons (e := ?_) (σ1 := ?_) (es := ?_) ?_ ?_ ?_); rotate_left 3; (focus (simp [*]; exact Eq.refl _)); (focus (simp; exact Eq.refl _))))); (exact runE_nil))); (focus (first | kernel_rfl | decide)))))
    ((refine post_ret (av := ?_) (by first | exact .inl rfl | exact .inr rfl) (show (Try.f33).results.toList = _ from by rw [Try.results33]) ?_ ?_); rotate_left; (focus (simp [retA, retL, ret1, lk, st, ldA, AV.cell]; rfl)); (try simp [*]))
@[simp] def g_join : List AV → Option (AV × Bool)
  | [.agg [.v (.int .i64 N), a0], .agg [.v (.int .i64 M), a1]] => (match toRows a0 with | some L => (match toRows a1 with | some K => if (okI N && okRows L && okI M && okRows K) = true then some (joinA N L M K, false) else none | none => none) | none => none)
  | _ => none
theorem e_join : EntOk Try.prog 32 g_join := ent_pure (by kernel_rfl) fun args r fr h => by
  unfold g_join at h
  split at h
  · rename_i N a0 M a1
    split at h
    · rename_i L t0
      split at h
      · rename_i K t1
        split at h
        · rename_i hc
          simp only [Bool.and_eq_true] at hc
          obtain ⟨⟨⟨m0, o0⟩, m1⟩, o1⟩ := hc
          cases h
          exact ⟨FnPure.cov (join_p N L M K m0 m1 o0 o1) (.cons (cov_th _ (cov_rows t0)) (.cons (cov_th _ (cov_rows t1)) .nil)), rfl⟩
        · cases h
      · cases h
    · cases h
  · cases h

@[simp] def g_rJoin : List AV → Option (AV × Bool)
  | [.agg [.v (.int .i64 N), a0], .agg [.v (.int .i64 M), a1]] => (match toRows a0 with | some L => (match toRows a1 with | some K => if (okI N && okRows L && okI M && okRows K) = true then some (joinA N L M K, false) else none | none => none) | none => none)
  | _ => none
theorem e_rJoin : EntOk Try.prog 33 g_rJoin := ent_pure (by kernel_rfl) fun args r fr h => by
  unfold g_rJoin at h
  split at h
  · rename_i N a0 M a1
    split at h
    · rename_i L t0
      split at h
      · rename_i K t1
        split at h
        · rename_i hc
          simp only [Bool.and_eq_true] at hc
          obtain ⟨⟨⟨m0, o0⟩, m1⟩, o1⟩ := hc
          cases h
          exact ⟨FnPure.cov (rJoin_p N L M K m0 m1 o0 o1) (.cons (cov_th _ (cov_rows t0)) (.cons (cov_th _ (cov_rows t1)) .nil)), rfl⟩
        · cases h
      · cases h
    · cases h
  · cases h

def l21 : List (FuncId × (List AV → Option (AV × Bool))) :=
  (32, g_join) :: (33, g_rJoin) :: l19
theorem l21_ok : ∀ p ∈ l21, EntOk Try.prog p.1 p.2 := ent_cons e_join (ent_cons e_rJoin (l19_ok))
def PT21 : PTab := tab l21
theorem PT21_ok : PTok Try.prog PT21 := tab_ok l21_ok
@[simp] theorem PT21_litVar : PT21 41 = g_litVar := rfl
@[simp] theorem PT21_litValid : PT21 36 = g_litValid := rfl
@[simp] theorem PT21_check : PT21 17 = g_check := rfl
@[simp] theorem PT21_with : PT21 56 = g_with := rfl
@[simp] theorem PT21_all : PT21 48 = g_all := rfl
@[simp] theorem PT21_rValid : PT21 37 = g_rValid := rfl
@[simp] theorem PT21_rHas : PT21 60 = g_rHas := rfl
@[simp] theorem PT21_rHolds : PT21 51 = g_rHolds := rfl
@[simp] theorem PT21_rAssign : PT21 50 = g_rAssign := rfl
@[simp] theorem PT21_rCheck : PT21 18 = g_rCheck := rfl
@[simp] theorem PT21_rEval : PT21 25 = g_rEval := rfl
@[simp] theorem PT21_litvalid : PT21 61 = g_litvalid := rfl
@[simp] theorem PT21_opposite : PT21 63 = g_opposite := rfl
@[simp] theorem PT21_clone : PT21 58 = g_clone := rfl
@[simp] theorem PT21_order : PT21 62 = g_order := rfl
@[simp] theorem PT21_term : PT21 52 = g_term := rfl
@[simp] theorem PT21_clause : PT21 38 = g_clause := rfl
@[simp] theorem PT21_equal : PT21 43 = g_equal := rfl
@[simp] theorem PT21_distinct : PT21 42 = g_distinct := rfl
@[simp] theorem PT21_normal : PT21 20 = g_normal := rfl
@[simp] theorem PT21_rContains : PT21 55 = g_rContains := rfl
@[simp] theorem PT21_rSameInts : PT21 46 = g_rSameInts := rfl
@[simp] theorem PT21_rAbs : PT21 59 = g_rAbs := rfl
@[simp] theorem PT21_rBefore : PT21 66 = g_rBefore := rfl
@[simp] theorem PT21_rSorted : PT21 44 = g_rSorted := rfl
@[simp] theorem PT21_rPut : PT21 45 = g_rPut := rfl
@[simp] theorem PT21_rNormal : PT21 21 = g_rNormal := rfl
@[simp] theorem PT21_place : PT21 73 = g_place := rfl
@[simp] theorem PT21_vHas : PT21 91 = g_vHas := rfl
@[simp] theorem PT21_vMinus : PT21 67 = g_vMinus := rfl
@[simp] theorem PT21_vSub : PT21 47 = g_vSub := rfl
@[simp] theorem PT21_litHolds : PT21 70 = g_litHolds := rfl
@[simp] theorem PT21_litAny : PT21 49 = g_litAny := rfl
@[simp] theorem PT21_thEval : PT21 24 = g_thEval := rfl
@[simp] theorem PT21_rSame : PT21 22 = g_rSame := rfl
@[simp] theorem PT21_rTerm : PT21 54 = g_rTerm := rfl
@[simp] theorem PT21_thVars : PT21 31 = g_thVars := rfl
@[simp] theorem PT21_rVars : PT21 34 = g_rVars := rfl
@[simp] theorem PT21_given : PT21 26 = g_given := rfl
@[simp] theorem PT21_light : PT21 15 = g_light := rfl
@[simp] theorem PT21_few : PT21 28 = g_few := rfl
@[simp] theorem PT21_same : PT21 29 = g_same := rfl
@[simp] theorem PT21_asg : PT21 30 = g_asg := rfl
@[simp] theorem PT21_join : PT21 32 = g_join := rfl
@[simp] theorem PT21_rJoin : PT21 33 = g_rJoin := rfl
end Go.Proofs.Ytkollnaojpppcaa
