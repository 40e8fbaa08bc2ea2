/- The law TheoryConditions, by the abstract machine; no condition. -/
import Derived.Test.YtkollnaojpppcaaLa1
import Derived.Test.YtkollnaojpppcaaPl4
import Derived.Test.YtkollnaojpppcaaRows
namespace Go.Proofs.Ytkollnaojpppcaa
set_option linter.unusedVariables false
set_option linter.unusedSimpArgs false
set_option linter.unusedSectionVars false
open Go.ChangeShapes Go.WideShapes Go.ChangeAt Go.RowKit
attribute [local simp] List.getD_cons_zero List.getD_cons_succ List.getD_nil undef runL runE effA stepA dstOk wantA core lk st dl AS.ev AS.evs AS.put AS.upd updO updI nxt cPick cAlloc cBox cBuild cBuildS cLoad cStore cNil plainOf cBin cNilS isNilS nilA cUn cConvX cConvB cConv bytesOf rowB cMake cSlice slA idxA cFA cF cIA cIX cIS cI cExt cLen cApp cMM cFun cCall lenA lenM isNilM nilM cNilM cMakeM hintB cMapK cLook foundR lookR cUpd putM cDel delM findA isKeyB Instr.sameNow AS.entry AS.bound AS.callee sc1 sc2 ixOk ldA AV.flat AV.cell AV.cells Value.oneCell' fillA spl chunk zeros AS.parts AS.rows AS.shut AS.shut1 AS.shut2 AS.shutL AS.shutM AV.ids idsL idsLL eqAll bndA AV.scalar AV.scalar1 AV.isV Ef.app fpA light Ef.pk ptOf pntO wrO wr
attribute [-simp] List.getD_eq_getElem?_getD
set_option maxRecDepth 100000
theorem lightB_len {L : List (List Int)} (h : lightB L = true) : L.length ≤ 60 := by
  simp only [lightB, Bool.and_eq_true, decide_eq_true_eq] at h; exact h.2
theorem shl_ok {q : Int} (q0 : 0 ≤ q) (q1 : q ≤ 8) : ∃ M : Nat, IntKind.i64.wrap (2 ^ min q.toNat IntKind.i64.bits) = (M : Int) ∧ 1 ≤ M ∧ M ≤ 256 := by
  obtain ⟨n, rfl⟩ := Int.eq_ofNat_of_zero_le q0
  have hn : n ≤ 8 := by omega
  have e1 : IntKind.i64.bits = 64 := rfl
  have e3 : min (n : Int).toNat 64 = n := by simp; omega
  have e4 : (2 : Nat) ^ n ≤ 2 ^ 8 := Nat.pow_le_pow_right (by omega) hn
  have e5 : 0 < (2 : Nat) ^ n := Nat.two_pow_pos n
  have e6 : ((2 ^ n : Nat) : Int) = (2 : Int) ^ n := by norm_cast
  refine ⟨2 ^ n, ?_, by omega, by omega⟩
  rw [e1, e3, e6]
  exact i64w (by omega) (by omega)
/-- A term of variables up to v. -/
structure TcP (q : Int) (v : Nat) (ts : List Int) : Prop where
  hv : (v : Int) ≤ q
  rng : ∀ l ∈ ts, (0 < l ∧ l ≤ (v : Int)) ∨ (0 < -l ∧ -l ≤ (v : Int))
  con : ∀ l ∈ ts, -l ∉ ts
  len : ts.length ≤ v
theorem TcP.zero {q : Int} (h : 0 ≤ q) : TcP q 0 [] := ⟨h, fun l h => (List.not_mem_nil h).elim, fun l h => (List.not_mem_nil h).elim, by simp⟩
theorem TcP.skip {q : Int} {v : Nat} {ts : List Int} (h : TcP q v ts) (hv : (v : Int) + 1 ≤ q) : TcP q (v + 1) ts := by
  refine ⟨by omega, fun l hl => ?_, h.con, by have := h.len; omega⟩
  have := h.rng l hl
  omega
theorem TcP.snoc {q : Int} {v : Nat} {ts : List Int} {l : Int} (h : TcP q v ts) (hv : (v : Int) + 1 ≤ q) (hl : l = (v : Int) + 1 ∨ l = -((v : Int) + 1)) : TcP q (v + 1) (ts ++ [l]) := by
  refine ⟨by omega, fun x hx => ?_, fun x hx hx2 => ?_, by have := h.len; simp; omega⟩
  · rcases List.mem_append.1 hx with hx | hx
    · have := h.rng x hx; omega
    · rw [List.mem_singleton.1 hx]; omega
  · rcases List.mem_append.1 hx with hx | hx <;> rcases List.mem_append.1 hx2 with hx2 | hx2
    · exact h.con x hx hx2
    · have := h.rng x hx
      rw [List.mem_singleton] at hx2; omega
    · have := h.rng _ hx2
      rw [List.mem_singleton] at hx; omega
    · rw [List.mem_singleton] at hx hx2; omega
theorem TcP.term {q : Int} {v : Nat} {ts : List Int} (h : TcP q v ts) (h1 : q ≤ 20) : termR q ts = true ∧ okInts ts = true := by
  have hv := h.hv
  have hl := h.len
  have hr : ∀ l ∈ ts, (0 < l ∧ l ≤ q) ∨ (0 < -l ∧ -l ≤ q) := fun l hl => by have := h.rng l hl; omega
  exact ⟨term_ok (by omega) hr h.con, okInts_term (by omega) (by omega) hr⟩
theorem tc_wraps (v : Nat) (h : (v : Int) + 1 ≤ 20) : IntKind.u64.wrap ((v : Int) + 1) = (v : Int) + 1 ∧ IntKind.i64.wrap (-((v : Int) + 1)) = -((v : Int) + 1) ∧ IntKind.i64.wrap ((v : Int) + 1 + 1) = (v : Int) + 1 + 1 ∧ ¬ (v : Int) + 1 < 0 :=
  ⟨u64w (by omega) (by omega), i64w (by omega) (by omega), i64w (by omega) (by omega), by omega⟩
theorem tc_lit1 (v : Nat) : -((v : Int) + 1) = (v : Int) + 1 ∨ -((v : Int) + 1) = -((v : Int) + 1) := .inr rfl
theorem tc_lit2 (v : Nat) : (v : Int) + 1 = (v : Int) + 1 ∨ (v : Int) + 1 = -((v : Int) + 1) := .inl rfl
theorem tc_cap {q : Int} {v : Nat} {ts : List Int} (h : TcP q v ts) (h1 : q ≤ 20) : (ts.length + 1) * 8 ≤ 140737488355328 := by
  have := h.len
  have := h.hv
  omega
theorem tc_lt {q : Int} {v : Nat} (h : (v : Int) + 1 ≤ q) : q.toNat - (v + 1) < q.toNat - v := by omega
def bitW (W : BitVec 64) (y : Nat) : Bool := W.getLsbD y
theorem tc_bit (W : BitVec 64) {y : Nat} (h : y < 64) : (IntKind.u64.wrap ((((W.toNat : Int).fdiv (2 ^ min y IntKind.u64.bits) % 2 ^ IntKind.u64.bits).toNat &&& 1 % 2 ^ IntKind.u64.bits : Nat) : Int) == 1) = bitW W y := by
  have e1 : IntKind.u64.bits = 64 := rfl
  have e2 : min y 64 = y := by omega
  have e3 : (W.toNat : Int).fdiv (2 ^ y) = ((W.toNat / 2 ^ y : Nat) : Int) := by
    rw [Int.fdiv_eq_ediv_of_nonneg _ (by exact_mod_cast Nat.zero_le (2 ^ y))]
    norm_cast
  have e4 : W.toNat / 2 ^ y < 2 ^ 64 := Nat.lt_of_le_of_lt (Nat.div_le_self _ _) W.isLt
  unfold bitW
  rw [e1, e2, e3, BitVec.getLsbD, Nat.testBit_eq_decide_div_mod_eq]
  generalize W.toNat / 2 ^ y = z at e4 ⊢
  have e5 : ((z : Int) % 2 ^ 64).toNat = z := by omega
  rw [e5, show 1 % 2 ^ 64 = 1 from rfl, Nat.and_one_is_mod, u64w (by omega) (by omega), Bool.eq_iff_iff, beq_iff_eq, decide_eq_true_eq]
  omega
theorem lo_sHas (s : BitVec 128) {y : Nat} (h : y < 64) : bitW (lo s) y = sHas s ((y : Int) + 1) := by
  have e : ((y : Int) + 1 - 1).toNat = y := by omega
  unfold sHas bitW
  rw [lo_bit, e, decide_eq_true h, decide_eq_true (by omega : (1 : Int) ≤ (y : Int) + 1), decide_eq_true (by omega : (y : Int) + 1 ≤ 128)]
  rfl
theorem tc_holds (a : BitVec 128) {x : Int} {y : Nat} (h : y < 64) (hv : litVar x = (y : Int) + 1) : (decide (0 < x) == bitW (lo a) y) = litHolds a x := by
  unfold litHolds
  rw [hv, lo_sHas a h, decide_eq_true (by omega : 0 < (y : Int) + 1), Bool.true_and]
  cases decide (0 < x) <;> cases sHas a ((y : Int) + 1) <;> rfl
theorem vars_row {u : Int} : ∀ (c : List Int) (S : BitVec 128), (∀ l ∈ c, litVar l ≠ u) → sHas (c.foldl (fun s l => sWith s (litVar l)) S) u = sHas S u
  | [], _, _ => rfl
  | l :: c, S, h => by
    rw [List.foldl_cons, vars_row c _ fun x hx => h x (List.mem_cons_of_mem _ hx), sHas_with, decide_eq_false (fun k => h l (List.mem_cons_self ..) k.1.symm), Bool.or_false]
theorem vars_rows {u : Int} : ∀ (L : List (List Int)) (S : BitVec 128), (∀ c ∈ L, ∀ l ∈ c, litVar l ≠ u) → sHas (L.foldl (fun s c => varsRow s c c.length) S) u = sHas S u
  | [], _, _ => rfl
  | c :: L, S, h => by
    rw [List.foldl_cons, vars_rows L _ fun x hx => h x (List.mem_cons_of_mem _ hx)]
    unfold varsRow
    rw [List.take_length, vars_row c S (h c (List.mem_cons_self ..))]
theorem vars_given {N : Int} {L : List (List Int)} (hz : checkT N L = 0) {ts : List Int} {x : Int} (hx : x ∈ ts) : sHas (varsOf N (givenT ts L)) (litVar x) = false := by
  have hz1 := givenT_check hz ts
  unfold varsOf varsT varsK
  rw [if_pos hz1, List.take_length, vars_rows (u := litVar x)]
  · unfold sHas; simp
  · intro c hc l hl he
    obtain ⟨_, h1, _, h3⟩ := checkT_ok hz1
    have hlo := litOk_range ((h3 c hc).2 l hl)
    obtain ⟨d, hd, ho, rfl⟩ := givenT_mem.1 hc
    obtain ⟨hl1, hl2⟩ := List.mem_filter.1 hl
    have n1 : l ∉ ts := by
      unfold openC at ho
      rw [Bool.not_eq_true', List.any_eq_false] at ho
      intro h; exact ho l hl1 (decide_eq_true h)
    have n2 : -l ∉ ts := by simpa using hl2
    have hlv : litVar l = l ∨ litVar l = -l := by
      rcases Int.lt_or_lt_of_ne hlo.2.2.1 with h | h
      · exact .inr (litVar_neg (by omega) (by omega))
      · exact .inl (litVar_pos (by omega) (by omega))
    have hpos : litVar l ≠ 0 := by rcases hlv with h | h <;> omega
    have hxv : litVar x = x ∨ litVar x = -x := by
      rcases Classical.em (1 ≤ x ∧ x ≤ 128) with h | h
      · exact .inl (litVar_pos h.1 h.2)
      · rcases Classical.em (-128 ≤ x ∧ x ≤ -1) with k | k
        · exact .inr (litVar_neg k.1 k.2)
        · exact absurd (he.trans (litVar_no (l := x) (by omega))) hpos
    have : x = l ∨ x = -l := by omega
    rcases this with rfl | rfl
    · exact n1 hx
    · exact n2 hx
/-- The first j literals hold. -/
def tmK (a : BitVec 128) (ts : List Int) (j : Nat) : Bool := (ts.take j).all (litHolds a)
theorem tmK_succ {a : BitVec 128} {ts : List Int} {j : Nat} (hj : j < ts.length) : tmK a ts (j + 1) = (tmK a ts j && litHolds a (ts.getD j 0)) := by
  have : ts.getD j 0 = ts[j] := by simp [List.getD, hj]
  unfold tmK
  rw [List.take_succ_eq_append_getElem hj, List.all_append, this]
  simp
/-- The variable of a literal of a term, as the text computes it. -/
theorem tc_abs {q : Int} {v : Nat} {ts : List Int} {j : Nat} (h : TcP q v ts) (hv : (v : Int) ≤ 64) (hj : j < ts.length) : ∃ y : Nat, y < 64 ∧ (if ts.getD j 0 < -(ts.getD j 0) then -(ts.getD j 0) else ts.getD j 0) = (y : Int) + 1 ∧ IntKind.i64.wrap (-(ts.getD j 0)) = -(ts.getD j 0) ∧ IntKind.i64.wrap (y : Int) = y ∧ IntKind.u64.wrap (y : Int) = y ∧ litVar (ts.getD j 0) = (y : Int) + 1 := by
  have hm : ts.getD j 0 ∈ ts := getD_memI hj
  have := h.rng _ hm
  generalize ts.getD j 0 = x at *
  rcases this with ⟨a, b⟩ | ⟨a, b⟩
  · exact ⟨(x - 1).toNat, by omega, by rw [if_neg (by omega)]; omega, i64w (by omega) (by omega), i64w (by omega) (by omega), u64w (by omega) (by omega), by rw [litVar_pos (by omega) (by omega)]; omega⟩
  · exact ⟨(-x - 1).toNat, by omega, by rw [if_pos (by omega)]; omega, i64w (by omega) (by omega), i64w (by omega) (by omega), u64w (by omega) (by omega), by rw [litVar_neg (by omega) (by omega)]; omega⟩
set_option maxHeartbeats 4000000 in
theorem theoryConditions_p (N : Int) (L : List (List Int)) (n : Int) (s t : BitVec 128) (hN : okI N = true) (hL : okLens L = true) (n0 : 0 ≤ n) (n1 : n ≤ 255) : FnPure Try.prog 9 [aTh N L, .v (.int .u8 n), aSet s, aSet t] (.v (.bool true)) := by
  unfold aTh aSet WV
  by_cases hl : lightB L = true
  · have hr := light_rows hL hl
    have hl60 := lightB_len hl
    have hmod : n.tmod 9 = n % 9 := Int.tmod_eq_emod_of_nonneg n0
    have q0 : 0 ≤ n % 9 := by omega
    have q1 : n % 9 ≤ 8 := by omega
    generalize n % 9 = q at hmod q0 q1
    have hw1 : IntKind.u8.wrap q = q := by rw [show IntKind.u8.wrap q = q % 256 from rfl]; omega
    have hw2 : IntKind.i64.wrap q = q := i64w (by omega) (by omega)
    have hw3 : IntKind.u64.wrap q = q := u64w (by omega) (by omega)
    have hq : okI q = true := okI_iff.2 ⟨by omega, by omega⟩
    have hfk : fewOk q L = true := fewOk_iff.2 ⟨hl60, q0, by omega⟩
    have hz := fewT_check (n := q) (L := L) q0 (by omega) (by omega)
    obtain ⟨T, hT⟩ : ∃ T, fewT q L = T := ⟨_, rfl⟩
    rw [hT] at hz
    have hfe : aTh q T = .agg [.v (.int .i64 q), aRows T] := rfl
    have hTr := okRows_check hz
    have hneg : ¬ q < 0 := by omega
    have q20 : q ≤ 20 := by omega
    refine fn_sp TT_ok Try.func9 (c := _) rfl (by simp [Try.ntmps9]) (fun B hI0 hro => ?_)
    rw [Try.ntmps9]
    simp only [enumA]
    repeat (first | with_reducible first | refine s_seq ?_ | refine k_seq ?_ | refine k_seq_ret ?_ | refine k_seq_exit ?_ | refine k_blk ?_ | refine k_blk_ret ?_ | refine k_blk_exit ?_ | refine k_lp_ret ?_ | refine k_lp_exit ?_ | refine ki_lp_ret ?_ | refine ki_lp_exit ?_ | refine s_block ?_ | refine sp_skip ?_ | refine sp_ret ?_ | refine sp_exit ?_ | ((with_reducible refine k_blk_out ?_ ?_); (focus decide)) | ((with_reducible refine s_cond_t ?_ ?_); (focus (simp [*]; done))) | ((with_reducible refine s_cond_f ?_ ?_); (focus (simp [*]; done))) | (focus ((with_reducible refine s_region2 (q := ?_) (σ' := ?_) TT_ok PT50_ok ?_ ?_ ?_); rotate_left 2; (focus (first | (simp; exact Eq.refl _) | exact Eq.refl _)); (focus ((repeat (((with_reducible refine runL_cons (σ1 := ?_) ?_ ?_); rotate_left; (focus (simp [*]; rfl))))); (exact runL_nil))))) | (focus ((with_reducible refine s_draw2 (q := ?_) (es := ?_) (σ' := ?_) prog_mixed TT_ok PT50_ok ?_ ?_ ?_ ?_); rotate_left 3; (focus (first | (simp; exact Eq.refl _) | exact Eq.refl _)); (focus ((repeat (((with_reducible refine runE_cons (e := ?_) (σ1 := ?_) (es := ?_) ?_ ?_ ?_); rotate_left 3; (focus (simp [*]; exact Eq.refl _)); (focus (simp; exact Eq.refl _))))); (exact runE_nil))); (focus (first | kernel_rfl | decide)))))
    refine s_nil 9 20 3 1 (by simp [lk]) (by simp) ?_
    (refine s_eq (τ := ?_) ?_ ?_; rotate_left; (focus ((try simp only [AS.frz, List.map_cons, List.map_nil]); (try simp [frzV, frzO, frzC, List.filter]); rfl)))
    refine s_loop (J := fun i : {x : Nat × List Int // TcP q x.1 x.2} => ⟨140, [(4, .ptr 0 0 0), (6, .ptr 1 0 0), (7, .ptr 2 0 0), (9, .ref 20 0 i.1.2.length), (10, .v (.int .i64 ((i.1.1 : Int) + 1)))], [(20, ⟨3, 1, i.1.2.map fun x => [.v (.int .i64 x)]⟩), (0, ⟨24, 2, [[.v (.int .i64 q), aRows T]]⟩), (1, ⟨36, 2, [[.v (.int .u64 ((lo s).toNat : Int)), .v (.int .u64 ((hi s).toNat : Int))]]⟩), (2, ⟨36, 2, [[.v (.int .u64 ((lo t).toNat : Int)), .v (.int .u64 ((hi t).toNat : Int))]]⟩)], [20, 0, 1, 2]⟩) (μ := fun i => q.toNat - i.1.1) ⟨(0, []), TcP.zero q0⟩ ?_ (fun ⟨(v, ts), hP⟩ => ?_)
    · (refine weak_id rfl ?_ ?_ <;> ((try simp only [List.mem_cons, List.not_mem_nil, or_false, forall_eq_or_imp, forall_eq]); (try simp (disch := omega) [i64w, *])))
    dsimp only at hP ⊢
    have c1 := tc_cap hP q20
    repeat (first | with_reducible first | refine s_seq ?_ | refine k_seq ?_ | refine k_seq_ret ?_ | refine k_seq_exit ?_ | refine k_blk ?_ | refine k_blk_ret ?_ | refine k_blk_exit ?_ | refine k_lp_ret ?_ | refine k_lp_exit ?_ | refine ki_lp_ret ?_ | refine ki_lp_exit ?_ | refine s_block ?_ | refine sp_skip ?_ | refine sp_ret ?_ | refine sp_exit ?_ | ((with_reducible refine k_blk_out ?_ ?_); (focus decide)) | ((with_reducible refine s_cond_t ?_ ?_); (focus (simp [*]; done))) | ((with_reducible refine s_cond_f ?_ ?_); (focus (simp [*]; done))) | (focus ((with_reducible refine s_region2 (q := ?_) (σ' := ?_) TT_ok PT50_ok ?_ ?_ ?_); rotate_left 2; (focus (first | (simp; exact Eq.refl _) | exact Eq.refl _)); (focus ((repeat (((with_reducible refine runL_cons (σ1 := ?_) ?_ ?_); rotate_left; (focus (simp [*]; rfl))))); (exact runL_nil))))) | (focus ((with_reducible refine s_draw2 (q := ?_) (es := ?_) (σ' := ?_) prog_mixed TT_ok PT50_ok ?_ ?_ ?_ ?_); rotate_left 3; (focus (first | (simp; exact Eq.refl _) | exact Eq.refl _)); (focus ((repeat (((with_reducible refine runE_cons (e := ?_) (σ1 := ?_) (es := ?_) ?_ ?_ ?_); rotate_left 3; (focus (simp [*]; exact Eq.refl _)); (focus (simp; exact Eq.refl _))))); (exact runE_nil))); (focus (first | kernel_rfl | decide)))))
    (focus ((with_reducible refine sp_cond (b := ?_) ?_ (fun hc => ?_) (fun hc => ?_)); rotate_left; (focus (first | rfl | (simp [lk, AS.ev]; rfl))); all_goals (try simp at hc)))
    · have hv1 : (v : Int) + 1 ≤ q := hc
      clear hc
      obtain ⟨hvu, hvm, hvd, hvp⟩ := tc_wraps v (Int.le_trans hv1 q20)
      repeat (first | with_reducible first | refine s_seq ?_ | refine k_seq ?_ | refine k_seq_ret ?_ | refine k_seq_exit ?_ | refine k_blk ?_ | refine k_blk_ret ?_ | refine k_blk_exit ?_ | refine k_lp_ret ?_ | refine k_lp_exit ?_ | refine ki_lp_ret ?_ | refine ki_lp_exit ?_ | refine s_block ?_ | refine sp_skip ?_ | refine sp_ret ?_ | refine sp_exit ?_ | ((with_reducible refine k_blk_out ?_ ?_); (focus decide)) | ((with_reducible refine s_cond_t ?_ ?_); (focus (simp [*]; done))) | ((with_reducible refine s_cond_f ?_ ?_); (focus (simp [*]; done))) | (focus ((with_reducible refine s_region2 (q := ?_) (σ' := ?_) TT_ok PT50_ok ?_ ?_ ?_); rotate_left 2; (focus (first | (simp; exact Eq.refl _) | exact Eq.refl _)); (focus ((repeat (((with_reducible refine runL_cons (σ1 := ?_) ?_ ?_); rotate_left; (focus (simp [*]; rfl))))); (exact runL_nil))))) | (focus ((with_reducible refine s_draw2 (q := ?_) (es := ?_) (σ' := ?_) prog_mixed TT_ok PT50_ok ?_ ?_ ?_ ?_); rotate_left 3; (focus (first | (simp; exact Eq.refl _) | exact Eq.refl _)); (focus ((repeat (((with_reducible refine runE_cons (e := ?_) (σ1 := ?_) (es := ?_) ?_ ?_ ?_); rotate_left 3; (focus (simp [*]; exact Eq.refl _)); (focus (simp; exact Eq.refl _))))); (exact runE_nil))); (focus (first | kernel_rfl | decide)))))
      (focus ((with_reducible refine sp_cond (b := ?_) ?_ (fun hc => ?_) (fun hc => ?_)); rotate_left; (focus (first | rfl | (simp [lk, AS.ev]; rfl))); all_goals (try simp at hc)))
      · clear hc
        repeat (first | with_reducible first | refine s_seq ?_ | refine k_seq ?_ | refine k_seq_ret ?_ | refine k_seq_exit ?_ | refine k_blk ?_ | refine k_blk_ret ?_ | refine k_blk_exit ?_ | refine k_lp_ret ?_ | refine k_lp_exit ?_ | refine ki_lp_ret ?_ | refine ki_lp_exit ?_ | refine s_block ?_ | refine sp_skip ?_ | refine sp_ret ?_ | refine sp_exit ?_ | ((with_reducible refine k_blk_out ?_ ?_); (focus decide)) | ((with_reducible refine s_cond_t ?_ ?_); (focus (simp [*]; done))) | ((with_reducible refine s_cond_f ?_ ?_); (focus (simp [*]; done))) | (focus ((with_reducible refine s_region2 (q := ?_) (σ' := ?_) TT_ok PT50_ok ?_ ?_ ?_); rotate_left 2; (focus (first | (simp; exact Eq.refl _) | exact Eq.refl _)); (focus ((repeat (((with_reducible refine runL_cons (σ1 := ?_) ?_ ?_); rotate_left; (focus (simp [*]; rfl))))); (exact runL_nil))))) | (focus ((with_reducible refine s_draw2 (q := ?_) (es := ?_) (σ' := ?_) prog_mixed TT_ok PT50_ok ?_ ?_ ?_ ?_); rotate_left 3; (focus (first | (simp; exact Eq.refl _) | exact Eq.refl _)); (focus ((repeat (((with_reducible refine runE_cons (e := ?_) (σ1 := ?_) (es := ?_) ?_ ?_ ?_); rotate_left 3; (focus (simp [*]; exact Eq.refl _)); (focus (simp; exact Eq.refl _))))); (exact runE_nil))); (focus (first | kernel_rfl | decide)))))
        (focus ((with_reducible refine sp_cond (b := ?_) ?_ (fun hc => ?_) (fun hc => ?_)); rotate_left; (focus (first | rfl | (simp [lk, AS.ev]; rfl))); all_goals (try simp at hc)))
        · clear hc
          repeat (first | with_reducible first | refine s_seq ?_ | refine k_seq ?_ | refine k_seq_ret ?_ | refine k_seq_exit ?_ | refine k_blk ?_ | refine k_blk_ret ?_ | refine k_blk_exit ?_ | refine k_lp_ret ?_ | refine k_lp_exit ?_ | refine ki_lp_ret ?_ | refine ki_lp_exit ?_ | refine s_block ?_ | refine sp_skip ?_ | refine sp_ret ?_ | refine sp_exit ?_ | ((with_reducible refine k_blk_out ?_ ?_); (focus decide)) | ((with_reducible refine s_cond_t ?_ ?_); (focus (simp [*]; done))) | ((with_reducible refine s_cond_f ?_ ?_); (focus (simp [*]; done))) | (focus ((with_reducible refine s_region2 (q := ?_) (σ' := ?_) TT_ok PT50_ok ?_ ?_ ?_); rotate_left 2; (focus (first | (simp; exact Eq.refl _) | exact Eq.refl _)); (focus ((repeat (((with_reducible refine runL_cons (σ1 := ?_) ?_ ?_); rotate_left; (focus (simp [*]; rfl))))); (exact runL_nil))))) | (focus ((with_reducible refine s_draw2 (q := ?_) (es := ?_) (σ' := ?_) prog_mixed TT_ok PT50_ok ?_ ?_ ?_ ?_); rotate_left 3; (focus (first | (simp; exact Eq.refl _) | exact Eq.refl _)); (focus ((repeat (((with_reducible refine runE_cons (e := ?_) (σ1 := ?_) (es := ?_) ?_ ?_ ?_); rotate_left 3; (focus (simp [*]; exact Eq.refl _)); (focus (simp; exact Eq.refl _))))); (exact runE_nil))); (focus (first | kernel_rfl | decide)))))
          refine k_lp (⟨(v + 1, ts ++ [-((v : Int) + 1)]), hP.snoc hv1 (tc_lit1 v)⟩ : {x : Nat × List Int // TcP q x.1 x.2}) (tc_lt hv1) ?_
          (refine weak_of (fun k => if k = 20 then 24 else k) ⟨rfl, ?_, ?_, ?_⟩ <;> ((try simp only [List.mem_cons, List.not_mem_nil, or_false, forall_eq_or_imp, forall_eq]); (try simp (disch := omega) [lk, AV.ids, idsL, idsLL, AV.ren, renL, renLL, i64w, *])))
        · clear hc
          repeat (first | with_reducible first | refine s_seq ?_ | refine k_seq ?_ | refine k_seq_ret ?_ | refine k_seq_exit ?_ | refine k_blk ?_ | refine k_blk_ret ?_ | refine k_blk_exit ?_ | refine k_lp_ret ?_ | refine k_lp_exit ?_ | refine ki_lp_ret ?_ | refine ki_lp_exit ?_ | refine s_block ?_ | refine sp_skip ?_ | refine sp_ret ?_ | refine sp_exit ?_ | ((with_reducible refine k_blk_out ?_ ?_); (focus decide)) | ((with_reducible refine s_cond_t ?_ ?_); (focus (simp [*]; done))) | ((with_reducible refine s_cond_f ?_ ?_); (focus (simp [*]; done))) | (focus ((with_reducible refine s_region2 (q := ?_) (σ' := ?_) TT_ok PT50_ok ?_ ?_ ?_); rotate_left 2; (focus (first | (simp; exact Eq.refl _) | exact Eq.refl _)); (focus ((repeat (((with_reducible refine runL_cons (σ1 := ?_) ?_ ?_); rotate_left; (focus (simp [*]; rfl))))); (exact runL_nil))))) | (focus ((with_reducible refine s_draw2 (q := ?_) (es := ?_) (σ' := ?_) prog_mixed TT_ok PT50_ok ?_ ?_ ?_ ?_); rotate_left 3; (focus (first | (simp; exact Eq.refl _) | exact Eq.refl _)); (focus ((repeat (((with_reducible refine runE_cons (e := ?_) (σ1 := ?_) (es := ?_) ?_ ?_ ?_); rotate_left 3; (focus (simp [*]; exact Eq.refl _)); (focus (simp; exact Eq.refl _))))); (exact runE_nil))); (focus (first | kernel_rfl | decide)))))
          refine k_lp (⟨(v + 1, ts ++ [(v : Int) + 1]), hP.snoc hv1 (tc_lit2 v)⟩ : {x : Nat × List Int // TcP q x.1 x.2}) (tc_lt hv1) ?_
          (refine weak_of (fun k => if k = 20 then 24 else k) ⟨rfl, ?_, ?_, ?_⟩ <;> ((try simp only [List.mem_cons, List.not_mem_nil, or_false, forall_eq_or_imp, forall_eq]); (try simp (disch := omega) [lk, AV.ids, idsL, idsLL, AV.ren, renL, renLL, i64w, *])))
      · clear hc
        repeat (first | with_reducible first | refine s_seq ?_ | refine k_seq ?_ | refine k_seq_ret ?_ | refine k_seq_exit ?_ | refine k_blk ?_ | refine k_blk_ret ?_ | refine k_blk_exit ?_ | refine k_lp_ret ?_ | refine k_lp_exit ?_ | refine ki_lp_ret ?_ | refine ki_lp_exit ?_ | refine s_block ?_ | refine sp_skip ?_ | refine sp_ret ?_ | refine sp_exit ?_ | ((with_reducible refine k_blk_out ?_ ?_); (focus decide)) | ((with_reducible refine s_cond_t ?_ ?_); (focus (simp [*]; done))) | ((with_reducible refine s_cond_f ?_ ?_); (focus (simp [*]; done))) | (focus ((with_reducible refine s_region2 (q := ?_) (σ' := ?_) TT_ok PT50_ok ?_ ?_ ?_); rotate_left 2; (focus (first | (simp; exact Eq.refl _) | exact Eq.refl _)); (focus ((repeat (((with_reducible refine runL_cons (σ1 := ?_) ?_ ?_); rotate_left; (focus (simp [*]; rfl))))); (exact runL_nil))))) | (focus ((with_reducible refine s_draw2 (q := ?_) (es := ?_) (σ' := ?_) prog_mixed TT_ok PT50_ok ?_ ?_ ?_ ?_); rotate_left 3; (focus (first | (simp; exact Eq.refl _) | exact Eq.refl _)); (focus ((repeat (((with_reducible refine runE_cons (e := ?_) (σ1 := ?_) (es := ?_) ?_ ?_ ?_); rotate_left 3; (focus (simp [*]; exact Eq.refl _)); (focus (simp; exact Eq.refl _))))); (exact runE_nil))); (focus (first | kernel_rfl | decide)))))
        refine k_lp (⟨(v + 1, ts), hP.skip hv1⟩ : {x : Nat × List Int // TcP q x.1 x.2}) (tc_lt hv1) ?_
        (refine weak_id rfl ?_ ?_ <;> ((try simp only [List.mem_cons, List.not_mem_nil, or_false, forall_eq_or_imp, forall_eq]); (try simp (disch := omega) [i64w, *])))
    · obtain ⟨t1, o1⟩ := hP.term q20
      have hv8 : (v : Int) ≤ 8 := Int.le_trans hP.hv q1
      have hz1 := givenT_check hz ts
      have hr1 := okRows_check hz1
      have hg1 : givenA q T ts = .tup [.agg [.v (.int .i64 q), aRows (givenT ts T)], .v (.int .i64 0)] := by unfold givenA; rw [if_pos hz, if_pos t1]; rfl
      refine s_frz (fun k => k == 20) ?_
      (refine s_eq (τ := ?_) ?_ ?_; rotate_left; (focus ((try simp only [AS.frz, List.map_cons, List.map_nil]); (try simp [frzV, frzO, frzC, List.filter]); rfl)))
      repeat (first | with_reducible first | refine s_seq ?_ | refine k_seq ?_ | refine k_seq_ret ?_ | refine k_seq_exit ?_ | refine k_blk ?_ | refine k_blk_ret ?_ | refine k_blk_exit ?_ | refine k_lp_ret ?_ | refine k_lp_exit ?_ | refine ki_lp_ret ?_ | refine ki_lp_exit ?_ | refine s_block ?_ | refine sp_skip ?_ | refine sp_ret ?_ | refine sp_exit ?_ | ((with_reducible refine k_blk_out ?_ ?_); (focus decide)) | ((with_reducible refine s_cond_t ?_ ?_); (focus (simp [*]; done))) | ((with_reducible refine s_cond_f ?_ ?_); (focus (simp [*]; done))) | (focus ((with_reducible refine s_region2 (q := ?_) (σ' := ?_) TT_ok PT50_ok ?_ ?_ ?_); rotate_left 2; (focus (first | (simp; exact Eq.refl _) | exact Eq.refl _)); (focus ((repeat (((with_reducible refine runL_cons (σ1 := ?_) ?_ ?_); rotate_left; (focus (simp [*]; rfl))))); (exact runL_nil))))) | (focus ((with_reducible refine s_draw2 (q := ?_) (es := ?_) (σ' := ?_) prog_mixed TT_ok PT50_ok ?_ ?_ ?_ ?_); rotate_left 3; (focus (first | (simp; exact Eq.refl _) | exact Eq.refl _)); (focus ((repeat (((with_reducible refine runE_cons (e := ?_) (σ1 := ?_) (es := ?_) ?_ ?_ ?_); rotate_left 3; (focus (simp [*]; exact Eq.refl _)); (focus (simp; exact Eq.refl _))))); (exact runE_nil))); (focus (first | kernel_rfl | decide)))))
      obtain ⟨M, hM, hM1, hM2⟩ := shl_ok (q := q) q0 q1
      have htl := okInts_len o1
      clear hc
      refine s_loop (J := fun i : {k : Nat // k ≤ M} => ⟨140, [(4, .ptr 0 0 0), (9, aInts ts), (12, .ptr 27 0 0), (14, .v (.int .i64 (i.1 : Int)))], [(0, ⟨24, 2, [[.v (.int .i64 q), aRows T]]⟩), (27, ⟨24, 2, [[.v (.int .i64 q), aRows (givenT ts T)]]⟩)], [27, 0]⟩) (μ := fun i => M - i.1) ⟨0, Nat.zero_le _⟩ ?_ (fun ⟨k, hk⟩ => ?_)
      · (refine weak_id rfl ?_ ?_ <;> ((try simp only [List.mem_cons, List.not_mem_nil, or_false, forall_eq_or_imp, forall_eq]); (try simp (disch := omega) [i64w, *])))
      repeat (first | with_reducible first | refine s_seq ?_ | refine k_seq ?_ | refine k_seq_ret ?_ | refine k_seq_exit ?_ | refine k_blk ?_ | refine k_blk_ret ?_ | refine k_blk_exit ?_ | refine k_lp_ret ?_ | refine k_lp_exit ?_ | refine ki_lp_ret ?_ | refine ki_lp_exit ?_ | refine s_block ?_ | refine sp_skip ?_ | refine sp_ret ?_ | refine sp_exit ?_ | ((with_reducible refine k_blk_out ?_ ?_); (focus decide)) | ((with_reducible refine s_cond_t ?_ ?_); (focus (simp [*]; done))) | ((with_reducible refine s_cond_f ?_ ?_); (focus (simp [*]; done))) | (focus ((with_reducible refine s_region2 (q := ?_) (σ' := ?_) TT_ok PT50_ok ?_ ?_ ?_); rotate_left 2; (focus (first | (simp; exact Eq.refl _) | exact Eq.refl _)); (focus ((repeat (((with_reducible refine runL_cons (σ1 := ?_) ?_ ?_); rotate_left; (focus (simp [*]; rfl))))); (exact runL_nil))))) | (focus ((with_reducible refine s_draw2 (q := ?_) (es := ?_) (σ' := ?_) prog_mixed TT_ok PT50_ok ?_ ?_ ?_ ?_); rotate_left 3; (focus (first | (simp; exact Eq.refl _) | exact Eq.refl _)); (focus ((repeat (((with_reducible refine runE_cons (e := ?_) (σ1 := ?_) (es := ?_) ?_ ?_ ?_); rotate_left 3; (focus (simp [*]; exact Eq.refl _)); (focus (simp; exact Eq.refl _))))); (exact runE_nil))); (focus (first | kernel_rfl | decide)))))
      (focus ((with_reducible refine sp_cond (b := ?_) ?_ (fun hc => ?_) (fun hc => ?_)); rotate_left; (focus (first | rfl | (simp [lk, AS.ev]; rfl))); all_goals (try simp at hc)))
      · have hkk := hc
        clear hc
        have hak : asgOk k q = true := asgOk_iff.2 ⟨by omega, by omega, by omega, by omega⟩
        have hki : okI (k : Int) = true := okI_iff.2 ⟨by omega, by omega⟩
        repeat (first | with_reducible first | refine s_seq ?_ | refine k_seq ?_ | refine k_seq_ret ?_ | refine k_seq_exit ?_ | refine k_blk ?_ | refine k_blk_ret ?_ | refine k_blk_exit ?_ | refine k_lp_ret ?_ | refine k_lp_exit ?_ | refine ki_lp_ret ?_ | refine ki_lp_exit ?_ | refine s_block ?_ | refine sp_skip ?_ | refine sp_ret ?_ | refine sp_exit ?_ | ((with_reducible refine k_blk_out ?_ ?_); (focus decide)) | ((with_reducible refine s_cond_t ?_ ?_); (focus (simp [*]; done))) | ((with_reducible refine s_cond_f ?_ ?_); (focus (simp [*]; done))) | (focus ((with_reducible refine s_region2 (q := ?_) (σ' := ?_) TT_ok PT50_ok ?_ ?_ ?_); rotate_left 2; (focus (first | (simp; exact Eq.refl _) | exact Eq.refl _)); (focus ((repeat (((with_reducible refine runL_cons (σ1 := ?_) ?_ ?_); rotate_left; (focus (simp [*]; rfl))))); (exact runL_nil))))) | (focus ((with_reducible refine s_draw2 (q := ?_) (es := ?_) (σ' := ?_) prog_mixed TT_ok PT50_ok ?_ ?_ ?_ ?_); rotate_left 3; (focus (first | (simp; exact Eq.refl _) | exact Eq.refl _)); (focus ((repeat (((with_reducible refine runE_cons (e := ?_) (σ1 := ?_) (es := ?_) ?_ ?_ ?_); rotate_left 3; (focus (simp [*]; exact Eq.refl _)); (focus (simp; exact Eq.refl _))))); (exact runE_nil))); (focus (first | kernel_rfl | decide)))))
        generalize asg (k : Int) q = a
        refine s_loop (J := fun i : {j : Nat // j ≤ ts.length} => ⟨140, [(4, .ptr 0 0 0), (9, aInts ts), (12, .ptr 27 0 0), (14, .v (.int .i64 (k : Int))), (15, .ptr 32 0 0), (16, .v (.bool (tmK a ts i.1))), (85, aInts ts), (86, .v (.int .i64 (ts.length : Int))), (87, .v (.int .i64 (i.1 : Int)))], [(0, ⟨24, 2, [[.v (.int .i64 q), aRows T]]⟩), (27, ⟨24, 2, [[.v (.int .i64 q), aRows (givenT ts T)]]⟩), (32, ⟨36, 2, [[.v (.int .u64 ((lo a).toNat : Int)), .v (.int .u64 ((hi a).toNat : Int))]]⟩)], [32, 27, 0]⟩) (μ := fun i => ts.length - i.1) ⟨0, Nat.zero_le _⟩ ?_ (fun ⟨j, hj⟩ => ?_)
        · have hk0 : tmK a ts 0 = true := rfl
          (refine weak_id rfl ?_ ?_ <;> ((try simp only [List.mem_cons, List.not_mem_nil, or_false, forall_eq_or_imp, forall_eq]); (try simp (disch := omega) [i64w, *])))
        repeat (first | with_reducible first | refine s_seq ?_ | refine k_seq ?_ | refine k_seq_ret ?_ | refine k_seq_exit ?_ | refine k_blk ?_ | refine k_blk_ret ?_ | refine k_blk_exit ?_ | refine k_lp_ret ?_ | refine k_lp_exit ?_ | refine ki_lp_ret ?_ | refine ki_lp_exit ?_ | refine s_block ?_ | refine sp_skip ?_ | refine sp_ret ?_ | refine sp_exit ?_ | ((with_reducible refine k_blk_out ?_ ?_); (focus decide)) | ((with_reducible refine s_cond_t ?_ ?_); (focus (simp [*]; done))) | ((with_reducible refine s_cond_f ?_ ?_); (focus (simp [*]; done))) | (focus ((with_reducible refine s_region2 (q := ?_) (σ' := ?_) TT_ok PT50_ok ?_ ?_ ?_); rotate_left 2; (focus (first | (simp; exact Eq.refl _) | exact Eq.refl _)); (focus ((repeat (((with_reducible refine runL_cons (σ1 := ?_) ?_ ?_); rotate_left; (focus (simp [*]; rfl))))); (exact runL_nil))))) | (focus ((with_reducible refine s_draw2 (q := ?_) (es := ?_) (σ' := ?_) prog_mixed TT_ok PT50_ok ?_ ?_ ?_ ?_); rotate_left 3; (focus (first | (simp; exact Eq.refl _) | exact Eq.refl _)); (focus ((repeat (((with_reducible refine runE_cons (e := ?_) (σ1 := ?_) (es := ?_) ?_ ?_ ?_); rotate_left 3; (focus (simp [*]; exact Eq.refl _)); (focus (simp; exact Eq.refl _))))); (exact runE_nil))); (focus (first | kernel_rfl | decide)))))
        (focus ((with_reducible refine sp_cond (b := ?_) ?_ (fun hc => ?_) (fun hc => ?_)); rotate_left; (focus (first | rfl | (simp [lk, AS.ev]; rfl))); all_goals (try simp at hc)))
        · have hjj := hc
          clear hc
          have his := tmK_succ (a := a) hjj
          obtain ⟨y, y1, y2, y3, y4, y5, y6⟩ := tc_abs hP (Int.le_trans hv8 (by decide : (8 : Int) ≤ 64)) hjj
          obtain ⟨x, hx⟩ : ∃ x, ts.getD j 0 = x := ⟨_, rfl⟩
          rw [hx] at his y2 y3 y6
          have y7 : ¬ (y : Int) < 0 := by omega
          have hbit := tc_bit (lo a) y1
          have hho := tc_holds a y1 y6
          cases hik : tmK a ts j
          · rw [hik, Bool.false_and] at his
            repeat (first | with_reducible first | refine s_seq ?_ | refine k_seq ?_ | refine k_seq_ret ?_ | refine k_seq_exit ?_ | refine k_blk ?_ | refine k_blk_ret ?_ | refine k_blk_exit ?_ | refine k_lp_ret ?_ | refine k_lp_exit ?_ | refine ki_lp_ret ?_ | refine ki_lp_exit ?_ | refine s_block ?_ | refine sp_skip ?_ | refine sp_ret ?_ | refine sp_exit ?_ | ((with_reducible refine k_blk_out ?_ ?_); (focus decide)) | ((with_reducible refine s_cond_t ?_ ?_); (focus (simp [*]; done))) | ((with_reducible refine s_cond_f ?_ ?_); (focus (simp [*]; done))) | (focus ((with_reducible refine s_region2 (q := ?_) (σ' := ?_) TT_ok PT50_ok ?_ ?_ ?_); rotate_left 2; (focus (first | (simp; exact Eq.refl _) | exact Eq.refl _)); (focus ((repeat (((with_reducible refine runL_cons (σ1 := ?_) ?_ ?_); rotate_left; (focus (simp [*]; rfl))))); (exact runL_nil))))) | (focus ((with_reducible refine s_draw2 (q := ?_) (es := ?_) (σ' := ?_) prog_mixed TT_ok PT50_ok ?_ ?_ ?_ ?_); rotate_left 3; (focus (first | (simp; exact Eq.refl _) | exact Eq.refl _)); (focus ((repeat (((with_reducible refine runE_cons (e := ?_) (σ1 := ?_) (es := ?_) ?_ ?_ ?_); rotate_left 3; (focus (simp [*]; exact Eq.refl _)); (focus (simp; exact Eq.refl _))))); (exact runE_nil))); (focus (first | kernel_rfl | decide)))))
            refine k_lp (⟨j + 1, by omega⟩ : {j : Nat // j ≤ ts.length}) (by dsimp only; omega) ?_
            (refine weak_id rfl ?_ ?_ <;> ((try simp only [List.mem_cons, List.not_mem_nil, or_false, forall_eq_or_imp, forall_eq]); (try simp (disch := omega) [i64w, *])))
          · rw [hik, Bool.true_and] at his
            repeat (first | with_reducible first | refine s_seq ?_ | refine k_seq ?_ | refine k_seq_ret ?_ | refine k_seq_exit ?_ | refine k_blk ?_ | refine k_blk_ret ?_ | refine k_blk_exit ?_ | refine k_lp_ret ?_ | refine k_lp_exit ?_ | refine ki_lp_ret ?_ | refine ki_lp_exit ?_ | refine s_block ?_ | refine sp_skip ?_ | refine sp_ret ?_ | refine sp_exit ?_ | ((with_reducible refine k_blk_out ?_ ?_); (focus decide)) | ((with_reducible refine s_cond_t ?_ ?_); (focus (simp [*]; done))) | ((with_reducible refine s_cond_f ?_ ?_); (focus (simp [*]; done))) | (focus ((with_reducible refine s_region2 (q := ?_) (σ' := ?_) TT_ok PT50_ok ?_ ?_ ?_); rotate_left 2; (focus (first | (simp; exact Eq.refl _) | exact Eq.refl _)); (focus ((repeat (((with_reducible refine runL_cons (σ1 := ?_) ?_ ?_); rotate_left; (focus (simp [*]; rfl))))); (exact runL_nil))))) | (focus ((with_reducible refine s_draw2 (q := ?_) (es := ?_) (σ' := ?_) prog_mixed TT_ok PT50_ok ?_ ?_ ?_ ?_); rotate_left 3; (focus (first | (simp; exact Eq.refl _) | exact Eq.refl _)); (focus ((repeat (((with_reducible refine runE_cons (e := ?_) (σ1 := ?_) (es := ?_) ?_ ?_ ?_); rotate_left 3; (focus (simp [*]; exact Eq.refl _)); (focus (simp; exact Eq.refl _))))); (exact runE_nil))); (focus (first | kernel_rfl | decide)))))
            refine k_lp (⟨j + 1, by omega⟩ : {j : Nat // j ≤ ts.length}) (by dsimp only; omega) ?_
            (refine weak_id rfl ?_ ?_ <;> ((try simp only [List.mem_cons, List.not_mem_nil, or_false, forall_eq_or_imp, forall_eq]); (try simp (disch := omega) [i64w, *])))
        · obtain rfl : j = ts.length := by omega
          clear hc
          cases hik : tmK a ts ts.length
          · repeat (first | with_reducible first | refine s_seq ?_ | refine k_seq ?_ | refine k_seq_ret ?_ | refine k_seq_exit ?_ | refine k_blk ?_ | refine k_blk_ret ?_ | refine k_blk_exit ?_ | refine k_lp_ret ?_ | refine k_lp_exit ?_ | refine ki_lp_ret ?_ | refine ki_lp_exit ?_ | refine s_block ?_ | refine sp_skip ?_ | refine sp_ret ?_ | refine sp_exit ?_ | ((with_reducible refine k_blk_out ?_ ?_); (focus decide)) | ((with_reducible refine s_cond_t ?_ ?_); (focus (simp [*]; done))) | ((with_reducible refine s_cond_f ?_ ?_); (focus (simp [*]; done))) | (focus ((with_reducible refine s_region2 (q := ?_) (σ' := ?_) TT_ok PT50_ok ?_ ?_ ?_); rotate_left 2; (focus (first | (simp; exact Eq.refl _) | exact Eq.refl _)); (focus ((repeat (((with_reducible refine runL_cons (σ1 := ?_) ?_ ?_); rotate_left; (focus (simp [*]; rfl))))); (exact runL_nil))))) | (focus ((with_reducible refine s_draw2 (q := ?_) (es := ?_) (σ' := ?_) prog_mixed TT_ok PT50_ok ?_ ?_ ?_ ?_); rotate_left 3; (focus (first | (simp; exact Eq.refl _) | exact Eq.refl _)); (focus ((repeat (((with_reducible refine runE_cons (e := ?_) (σ1 := ?_) (es := ?_) ?_ ?_ ?_); rotate_left 3; (focus (simp [*]; exact Eq.refl _)); (focus (simp; exact Eq.refl _))))); (exact runE_nil))); (focus (first | kernel_rfl | decide)))))
            refine k_lp (⟨k + 1, by omega⟩ : {k : Nat // k ≤ M}) (by dsimp only; omega) ?_
            (refine weak_id rfl ?_ ?_ <;> ((try simp only [List.mem_cons, List.not_mem_nil, or_false, forall_eq_or_imp, forall_eq]); (try simp (disch := omega) [i64w, *])))
          · have hev : evalT q (givenT ts T) a = evalT q T a := givenT_eval hz fun l hl => by
              unfold tmK at hik
              rw [List.take_length] at hik
              exact List.all_eq_true.1 hik l hl
            repeat (first | with_reducible first | refine s_seq ?_ | refine k_seq ?_ | refine k_seq_ret ?_ | refine k_seq_exit ?_ | refine k_blk ?_ | refine k_blk_ret ?_ | refine k_blk_exit ?_ | refine k_lp_ret ?_ | refine k_lp_exit ?_ | refine ki_lp_ret ?_ | refine ki_lp_exit ?_ | refine s_block ?_ | refine sp_skip ?_ | refine sp_ret ?_ | refine sp_exit ?_ | ((with_reducible refine k_blk_out ?_ ?_); (focus decide)) | ((with_reducible refine s_cond_t ?_ ?_); (focus (simp [*]; done))) | ((with_reducible refine s_cond_f ?_ ?_); (focus (simp [*]; done))) | (focus ((with_reducible refine s_region2 (q := ?_) (σ' := ?_) TT_ok PT50_ok ?_ ?_ ?_); rotate_left 2; (focus (first | (simp; exact Eq.refl _) | exact Eq.refl _)); (focus ((repeat (((with_reducible refine runL_cons (σ1 := ?_) ?_ ?_); rotate_left; (focus (simp [*]; rfl))))); (exact runL_nil))))) | (focus ((with_reducible refine s_draw2 (q := ?_) (es := ?_) (σ' := ?_) prog_mixed TT_ok PT50_ok ?_ ?_ ?_ ?_); rotate_left 3; (focus (first | (simp; exact Eq.refl _) | exact Eq.refl _)); (focus ((repeat (((with_reducible refine runE_cons (e := ?_) (σ1 := ?_) (es := ?_) ?_ ?_ ?_); rotate_left 3; (focus (simp [*]; exact Eq.refl _)); (focus (simp; exact Eq.refl _))))); (exact runE_nil))); (focus (first | kernel_rfl | decide)))))
            refine k_lp (⟨k + 1, by omega⟩ : {k : Nat // k ≤ M}) (by dsimp only; omega) ?_
            (refine weak_id rfl ?_ ?_ <;> ((try simp only [List.mem_cons, List.not_mem_nil, or_false, forall_eq_or_imp, forall_eq]); (try simp (disch := omega) [i64w, *])))
      · repeat (first | with_reducible first | refine s_seq ?_ | refine k_seq ?_ | refine k_seq_ret ?_ | refine k_seq_exit ?_ | refine k_blk ?_ | refine k_blk_ret ?_ | refine k_blk_exit ?_ | refine k_lp_ret ?_ | refine k_lp_exit ?_ | refine ki_lp_ret ?_ | refine ki_lp_exit ?_ | refine s_block ?_ | refine sp_skip ?_ | refine sp_ret ?_ | refine sp_exit ?_ | ((with_reducible refine k_blk_out ?_ ?_); (focus decide)) | ((with_reducible refine s_cond_t ?_ ?_); (focus (simp [*]; done))) | ((with_reducible refine s_cond_f ?_ ?_); (focus (simp [*]; done))) | (focus ((with_reducible refine s_region2 (q := ?_) (σ' := ?_) TT_ok PT50_ok ?_ ?_ ?_); rotate_left 2; (focus (first | (simp; exact Eq.refl _) | exact Eq.refl _)); (focus ((repeat (((with_reducible refine runL_cons (σ1 := ?_) ?_ ?_); rotate_left; (focus (simp [*]; rfl))))); (exact runL_nil))))) | (focus ((with_reducible refine s_draw2 (q := ?_) (es := ?_) (σ' := ?_) prog_mixed TT_ok PT50_ok ?_ ?_ ?_ ?_); rotate_left 3; (focus (first | (simp; exact Eq.refl _) | exact Eq.refl _)); (focus ((repeat (((with_reducible refine runE_cons (e := ?_) (σ1 := ?_) (es := ?_) ?_ ?_ ?_); rotate_left 3; (focus (simp [*]; exact Eq.refl _)); (focus (simp; exact Eq.refl _))))); (exact runE_nil))); (focus (first | kernel_rfl | decide)))))
        refine s_loop (J := fun i : {j : Nat // j ≤ ts.length} => ⟨140, [(19, .ptr 30 0 0), (121, aInts ts), (122, .v (.int .i64 (ts.length : Int))), (123, .v (.int .i64 (i.1 : Int)))], [(30, ⟨36, 2, [[.v (.int .u64 ((lo (varsOf q (givenT ts T))).toNat : Int)), .v (.int .u64 ((hi (varsOf q (givenT ts T))).toNat : Int))]]⟩)], [30]⟩) (μ := fun i => ts.length - i.1) ⟨0, Nat.zero_le _⟩ ?_ (fun ⟨j, hj⟩ => ?_)
        · (refine weak_id rfl ?_ ?_ <;> ((try simp only [List.mem_cons, List.not_mem_nil, or_false, forall_eq_or_imp, forall_eq]); (try simp (disch := omega) [i64w, *])))
        repeat (first | with_reducible first | refine s_seq ?_ | refine k_seq ?_ | refine k_seq_ret ?_ | refine k_seq_exit ?_ | refine k_blk ?_ | refine k_blk_ret ?_ | refine k_blk_exit ?_ | refine k_lp_ret ?_ | refine k_lp_exit ?_ | refine ki_lp_ret ?_ | refine ki_lp_exit ?_ | refine s_block ?_ | refine sp_skip ?_ | refine sp_ret ?_ | refine sp_exit ?_ | ((with_reducible refine k_blk_out ?_ ?_); (focus decide)) | ((with_reducible refine s_cond_t ?_ ?_); (focus (simp [*]; done))) | ((with_reducible refine s_cond_f ?_ ?_); (focus (simp [*]; done))) | (focus ((with_reducible refine s_region2 (q := ?_) (σ' := ?_) TT_ok PT50_ok ?_ ?_ ?_); rotate_left 2; (focus (first | (simp; exact Eq.refl _) | exact Eq.refl _)); (focus ((repeat (((with_reducible refine runL_cons (σ1 := ?_) ?_ ?_); rotate_left; (focus (simp [*]; rfl))))); (exact runL_nil))))) | (focus ((with_reducible refine s_draw2 (q := ?_) (es := ?_) (σ' := ?_) prog_mixed TT_ok PT50_ok ?_ ?_ ?_ ?_); rotate_left 3; (focus (first | (simp; exact Eq.refl _) | exact Eq.refl _)); (focus ((repeat (((with_reducible refine runE_cons (e := ?_) (σ1 := ?_) (es := ?_) ?_ ?_ ?_); rotate_left 3; (focus (simp [*]; exact Eq.refl _)); (focus (simp; exact Eq.refl _))))); (exact runE_nil))); (focus (first | kernel_rfl | decide)))))
        (focus ((with_reducible refine sp_cond (b := ?_) ?_ (fun hc => ?_) (fun hc => ?_)); rotate_left; (focus (first | rfl | (simp [lk, AS.ev]; rfl))); all_goals (try simp at hc)))
        · have hjj := hc
          clear hc
          obtain ⟨y, y1, y2, y3, y4, y5, y6⟩ := tc_abs hP (Int.le_trans hv8 (by decide : (8 : Int) ≤ 64)) hjj
          obtain ⟨x, hx⟩ : ∃ x, ts.getD j 0 = x := ⟨_, rfl⟩
          rw [hx] at y2 y3 y6
          have y7 : ¬ (y : Int) < 0 := by omega
          have hbit := tc_bit (lo (varsOf q (givenT ts T))) y1
          have hno : bitW (lo (varsOf q (givenT ts T))) y = false := by
            rw [lo_sHas _ y1, ← y6]
            exact vars_given hz (hx ▸ getD_memI hjj)
          repeat (first | with_reducible first | refine s_seq ?_ | refine k_seq ?_ | refine k_seq_ret ?_ | refine k_seq_exit ?_ | refine k_blk ?_ | refine k_blk_ret ?_ | refine k_blk_exit ?_ | refine k_lp_ret ?_ | refine k_lp_exit ?_ | refine ki_lp_ret ?_ | refine ki_lp_exit ?_ | refine s_block ?_ | refine sp_skip ?_ | refine sp_ret ?_ | refine sp_exit ?_ | ((with_reducible refine k_blk_out ?_ ?_); (focus decide)) | ((with_reducible refine s_cond_t ?_ ?_); (focus (simp [*]; done))) | ((with_reducible refine s_cond_f ?_ ?_); (focus (simp [*]; done))) | (focus ((with_reducible refine s_region2 (q := ?_) (σ' := ?_) TT_ok PT50_ok ?_ ?_ ?_); rotate_left 2; (focus (first | (simp; exact Eq.refl _) | exact Eq.refl _)); (focus ((repeat (((with_reducible refine runL_cons (σ1 := ?_) ?_ ?_); rotate_left; (focus (simp [*]; rfl))))); (exact runL_nil))))) | (focus ((with_reducible refine s_draw2 (q := ?_) (es := ?_) (σ' := ?_) prog_mixed TT_ok PT50_ok ?_ ?_ ?_ ?_); rotate_left 3; (focus (first | (simp; exact Eq.refl _) | exact Eq.refl _)); (focus ((repeat (((with_reducible refine runE_cons (e := ?_) (σ1 := ?_) (es := ?_) ?_ ?_ ?_); rotate_left 3; (focus (simp [*]; exact Eq.refl _)); (focus (simp; exact Eq.refl _))))); (exact runE_nil))); (focus (first | kernel_rfl | decide)))))
          refine k_lp (⟨j + 1, by omega⟩ : {j : Nat // j ≤ ts.length}) (by dsimp only; omega) ?_
          (refine weak_id rfl ?_ ?_ <;> ((try simp only [List.mem_cons, List.not_mem_nil, or_false, forall_eq_or_imp, forall_eq]); (try simp (disch := omega) [i64w, *])))
        · repeat (first | with_reducible first | refine s_seq ?_ | refine k_seq ?_ | refine k_seq_ret ?_ | refine k_seq_exit ?_ | refine k_blk ?_ | refine k_blk_ret ?_ | refine k_blk_exit ?_ | refine k_lp_ret ?_ | refine k_lp_exit ?_ | refine ki_lp_ret ?_ | refine ki_lp_exit ?_ | refine s_block ?_ | refine sp_skip ?_ | refine sp_ret ?_ | refine sp_exit ?_ | ((with_reducible refine k_blk_out ?_ ?_); (focus decide)) | ((with_reducible refine s_cond_t ?_ ?_); (focus (simp [*]; done))) | ((with_reducible refine s_cond_f ?_ ?_); (focus (simp [*]; done))) | (focus ((with_reducible refine s_region2 (q := ?_) (σ' := ?_) TT_ok PT50_ok ?_ ?_ ?_); rotate_left 2; (focus (first | (simp; exact Eq.refl _) | exact Eq.refl _)); (focus ((repeat (((with_reducible refine runL_cons (σ1 := ?_) ?_ ?_); rotate_left; (focus (simp [*]; rfl))))); (exact runL_nil))))) | (focus ((with_reducible refine s_draw2 (q := ?_) (es := ?_) (σ' := ?_) prog_mixed TT_ok PT50_ok ?_ ?_ ?_ ?_); rotate_left 3; (focus (first | (simp; exact Eq.refl _) | exact Eq.refl _)); (focus ((repeat (((with_reducible refine runE_cons (e := ?_) (σ1 := ?_) (es := ?_) ?_ ?_ ?_); rotate_left 3; (focus (simp [*]; exact Eq.refl _)); (focus (simp; exact Eq.refl _))))); (exact runE_nil))); (focus (first | kernel_rfl | decide)))))
          ((refine post_ret (av := ?_) (by first | exact .inl rfl | exact .inr rfl) (show (Try.f9).results.toList = _ from by rw [Try.results9]) ?_ ?_); rotate_left; (focus (simp [retA, retL, ret1, lk, st, ldA, AV.cell]; rfl)); (try simp [*]))
  · refine fn_sp TT_ok Try.func9 (c := _) rfl (by simp [Try.ntmps9]) (fun B hI0 hro => ?_)
    rw [Try.ntmps9]
    simp only [enumA]
    repeat (first | with_reducible first | refine s_seq ?_ | refine k_seq ?_ | refine k_seq_ret ?_ | refine k_seq_exit ?_ | refine k_blk ?_ | refine k_blk_ret ?_ | refine k_blk_exit ?_ | refine k_lp_ret ?_ | refine k_lp_exit ?_ | refine ki_lp_ret ?_ | refine ki_lp_exit ?_ | refine s_block ?_ | refine sp_skip ?_ | refine sp_ret ?_ | refine sp_exit ?_ | ((with_reducible refine k_blk_out ?_ ?_); (focus decide)) | ((with_reducible refine s_cond_t ?_ ?_); (focus (simp [*]; done))) | ((with_reducible refine s_cond_f ?_ ?_); (focus (simp [*]; done))) | (focus ((with_reducible refine s_region2 (q := ?_) (σ' := ?_) TT_ok PT50_ok ?_ ?_ ?_); rotate_left 2; (focus (first | (simp; exact Eq.refl _) | exact Eq.refl _)); (focus ((repeat (((with_reducible refine runL_cons (σ1 := ?_) ?_ ?_); rotate_left; (focus (simp [*]; rfl))))); (exact runL_nil))))) | (focus ((with_reducible refine s_draw2 (q := ?_) (es := ?_) (σ' := ?_) prog_mixed TT_ok PT50_ok ?_ ?_ ?_ ?_); rotate_left 3; (focus (first | (simp; exact Eq.refl _) | exact Eq.refl _)); (focus ((repeat (((with_reducible refine runE_cons (e := ?_) (σ1 := ?_) (es := ?_) ?_ ?_ ?_); rotate_left 3; (focus (simp [*]; exact Eq.refl _)); (focus (simp; exact Eq.refl _))))); (exact runE_nil))); (focus (first | kernel_rfl | decide)))))
    ((refine post_ret (av := ?_) (by first | exact .inl rfl | exact .inr rfl) (show (Try.f9).results.toList = _ from by rw [Try.results9]) ?_ ?_); rotate_left; (focus (simp [retA, retL, ret1, lk, st, ldA, AV.cell]; rfl)); (try simp [*]))
namespace theoryConditions
set_option maxRecDepth 100000 in
theorem lifted (os : Os) (started : os.Started) (H : Type) (enc : TypeId × Value → H) :
    ReturnsInHanded {} Try.checked os 9 .any (Rows.theoryConditionsSpec.pre6 enc Try.prog Go.Proofs.Try.f9 Rows.theoryConditionsRow.domain false) (Rows.theoryConditionsSpec.post enc Try.prog Go.Proofs.Try.f9 false true false false) := by
  refine returnsInHanded_of_change (C := Try.checked) (by kernel_rfl) started (by kernel_rfl) Try.func9
    (ChangeSpec.witness6 (enc := enc) (C := Try.checked) false ⟨#[], #[.agg #[.int .i64 0, .slice none 0 0], .int .u8 0, .agg #[.int .u64 0, .int .u64 0], .agg #[.int .u64 0, .int .u64 0]], []⟩ 8 (by kernel_rfl) (by kernel_rfl) (by kernel_rfl) (by kernel_rfl)) ?_
  intro W base args ds gs before hval0 hW hcnd _
  have hval : ∀ (j : Nat) t v, (Go.Proofs.Try.f9).params[j]? = some t → args[j]? = some v → Value.okWide Try.prog W .any base t v := hval0
  have hW2 := hW
  obtain ⟨p, q, hA0, hV, _, _, _⟩ := hW
  have hA : DataW.TrodAll enc Try.prog W 0 (fun _ => true) true (Go.Proofs.Try.f9).params.toList args.toList ds p := hA0
  rw [Try.params9] at hA hval
  clear hA0 hval0 hcnd
  obtain ⟨rfl, _⟩ := trodVars_none hV
  obtain ⟨v0, vs0, d0, ds0, p0, q0, hargs, rfl, _, h0, r0⟩ := trodAll_cons hA
  obtain ⟨v1, vs1, d1, ds1, p1, q1, rfl, rfl, _, h1, r1⟩ := trodAll_cons r0
  obtain ⟨v2, vs2, d2, ds2, p2, q2, rfl, rfl, _, h2, r2⟩ := trodAll_cons r1
  obtain ⟨v3, vs3, d3, ds3, p3, q3, rfl, rfl, _, h3, r3⟩ := trodAll_cons r2
  obtain ⟨rfl, rfl, _⟩ := trodAll_nil r3
  obtain rfl : args = #[v0, v1, v2, v3] := by cases args; simp_all
  obtain ⟨N, L, ra0, oN0, oL0⟩ := arg_th (hval 0 _ v0 rfl rfl) h0
  obtain ⟨n, ra1, l1, u1⟩ := arg_u8 (hval 1 _ v1 rfl rfl) h1
  obtain ⟨s, ra2⟩ := arg_set (hval 2 _ v2 rfl rfl) h2
  obtain ⟨t, ra3⟩ := arg_set (hval 3 _ v3 rfl rfl) h3
  refine law_of_pure (avs := [.agg [.v (.int .i64 N), aRows L], .v (.int .u8 n), aSet s, aSet t]) (by kernel_rfl) hW2 rfl (rec_ok (by kernel_rfl)) (tb := 4) rfl Try.underlying4 rfl rfl rfl rfl (fun i hi => ?_) (theoryConditions_p N L n s t oN0 oL0 l1 u1)
  match i, hi with
  | 0, _ => exact ra0
  | 1, _ => exact ra1
  | 2, _ => exact ra2
  | 3, _ => exact ra3
theorem proved : Rows.TheoryConditionsSaid :=
  OpenClaim.holds_of_wide 9 Go.Proofs.Try.f9 rfl rfl rfl rfl rfl rfl rfl ⟨rfl, rfl, rfl, rfl, rfl⟩ rfl rfl rfl rfl rfl (by kernel_rfl) Try.func9 (by kernel_rfl)
    (of_decide_eq_true (by kernel_rfl)) (by unfold Func.isWrapper; first | (rw [if_pos (by decide +kernel)]; kernel_rfl) | (rw [if_neg (by decide +kernel)]; exact ⟨rfl, rfl⟩))
    (fun os started H enc _ => lifted os started H enc)
end theoryConditions
end Go.Proofs.Ytkollnaojpppcaa
