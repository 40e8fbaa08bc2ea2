/- Contract of theory.Eval, by the abstract machine; no condition. -/
import Derived.Test.YtllkogdgmmcfgaaGreatDoorVsG
import Derived.Test.YtllkogdgmmcfgaaGreatDoorWl
import Derived.Test.YtllkogdgmmcfgaaGreatDoorOld
import Derived.Lib.SlicesCompact
import Derived.Test.YtllkogdgmmcfgaaGreatDoorNrG
/- Th1: Contract of theory.Eval, by the abstract machine; no condition. -/
namespace Go.Proofs.YtllkogdgmmcfgaaGreatDoor
set_option linter.unusedVariables false
set_option linter.unusedSimpArgs false
set_option linter.unusedSectionVars false
open Go.RowKit
set_option maxRecDepth 100000

theorem sSub_iff (s t : BitVec 128) : sSub s t = true ↔ ∀ v : Int, sHas s v = true → sHas t v = true := by
 unfold sSub
 rw [beq_iff_eq]
 constructor
 ·intro h v hv
  obtain ⟨h1, h2⟩ := sHas_mem hv
  have : sHas (s &&& ~~~ t) v = false := by rw [h]; exact sHas_zero v
  rw [sHas_and, sHas_not t v h1 h2, hv] at this
  simpa using this
 ·intro h
  refine sets_ext fun v h1 h2 => ?_
  rw [sHas_and, sHas_not t v h1 h2, sHas_zero]
  cases hv : sHas s v
  ·rfl
  ·rw [h v hv]; rfl
theorem sub_upto (s : BitVec 128) {n : Int} (h0 : 0 ≤ n) : sSub s (sAll n) = sUpto s n := by
 rw [Bool.eq_iff_iff, sSub_iff, sUpto_iff s n h0]
 constructor
 ·intro h v hv
  cases hs : sHas s v
  ·rfl
  ·have := h v hs
   rw [sHas_all] at this
   simp at this; omega
 ·intro h v hv
  obtain ⟨h1, h2⟩ := sHas_mem hv
  rw [sHas_all]
  simp only [decide_eq_true_eq]
  refine ⟨h1, ?_, h2⟩
  rcases Int.lt_or_le n v with h3 | h3
  ·rw [h v h3] at hv; cases hv
  ·exact h3
theorem getD_memL {L : List (List Int)} {k : Nat} (hk : k < L.length) : L.getD k [] ∈ L := by
 have : L.getD k [] = L[k] := by simp [List.getD, hk]
 rw [this]; exact List.getElem_mem _
def l13 : List (FuncId × (List AV → Option (AV × Bool))) :=
 l10
theorem l13_ok : ∀ p ∈ l13, EntOk Tryz.prog p.1 p.2 := l10_ok
def PT13 : PTab := tab l13
theorem PT13_ok : PTok Tryz.prog PT13 := tab_ok l13_ok
@[simp] theorem PT13_old (f : FuncId) : PT13 f = PT10 f := rfl
end Go.Proofs.YtllkogdgmmcfgaaGreatDoor
/- Th2: Contracts of censusref05.Same and Term, by the abstract machine; no condition. -/
namespace Go.Proofs.YtllkogdgmmcfgaaGreatDoor
set_option linter.unusedVariables false
set_option linter.unusedSimpArgs false
set_option linter.unusedSectionVars false
open Go.RowKit
open Wlk
attribute [-simp] List.getD_eq_getElem?_getD
set_option maxRecDepth 100000

theorem rows_eq_of {L M : List (List Int)} (hl : L.length = M.length) (h : ∀ j, j < L.length → L.getD j [] = M.getD j []) : L = M := by
 refine List.ext_getElem hl fun j h1 h2 => ?_
 have := h j h1
 simpa [List.getD, h1, h2] using this
def termR (N : Int) (xs : List Int) : Bool := xs.all fun x => litOk x N && !decide (-x ∈ xs)
theorem termR_at {N : Int} {xs : List Int} (h : ∀ j, j < xs.length → (litOk (xs.getD j 0) N && !decide (-(xs.getD j 0) ∈ xs)) = true) : termR N xs = true := by
 unfold termR
 rw [List.all_eq_true]
 intro x hx
 obtain ⟨j, hj, rfl⟩ := List.getElem_of_mem hx
 have := h j hj
 simpa [List.getD, hj] using this
theorem termR_no {N : Int} {xs : List Int} {k : Nat} (hk : k < xs.length) (h : (litOk (xs.getD k 0) N && !decide (-(xs.getD k 0) ∈ xs)) = false) : termR N xs = false := by
 unfold termR
 rw [List.all_eq_false]
 refine ⟨xs[k], List.getElem_mem hk, ?_⟩
 have e : xs.getD k 0 = xs[k] := by simp [List.getD, hk]
 rw [e] at h
 simp only [h]; simp
theorem rTerm_p (N : Int) (xs : List Int) (hx : okInts xs = true) (hN : okI N = true) (h0 : 0 ≤ N) (h1 : N ≤ 128) : FnPure Tryz.prog 131 [aInts xs, .v (.int .i64 N)] (.v (.bool (termR N xs))) := by
 have hm := okInts_len hx
 refine fn_sp TT_ok Tryz.func131 (c := _) rfl (by simp [Tryz.ntmps131]) (fun B hI0 hro => ?_)
 rw [Tryz.ntmps131]
 simp only [enumA]
 refine amGo PT13_ok (h := ?_)
 refine s_loop (J := fun i : {k : Nat // k ≤ xs.length ∧ ∀ j, j < k → (litOk (xs.getD j 0) N && !decide (-(xs.getD j 0) ∈ xs)) = true} => ⟨28, [(0, aInts xs), (1, .v (.int .i64 N)), (5, .v (.int .i64 (i.1 : Int)))], [], []⟩) (μ := fun i => xs.length - i.1) ⟨0, Nat.zero_le _, fun j hj => by omega⟩ ?_ (fun ⟨k, hk, he⟩ => ?_)
 ·(refine weak_id rfl ?_ ?_ <;> ((try simp only [List.mem_cons, List.not_mem_nil, or_false, forall_eq_or_imp, forall_eq]); (try simp (disch := omega) [i64w, *])))
 refine amGo PT13_ok (h := ?_)
 (focus ((with_reducible refine sp_cond (b := ?_) ?_ (fun hc => ?_) (fun hc => ?_)); rotate_left; (focus (first | rfl | (simp [lk, AS.ev]; rfl))); all_goals (try simp at hc)))
 ·have hcc := hc
  clear hc
  obtain ⟨b1, b2⟩ := okInts_at hx k
  have ho : okI (xs.getD k 0) = true := okI_iff.2 ⟨b1, b2⟩
  cases hv : litOk (xs.getD k 0) N
  ·have hno := termR_no (N := N) hcc (by rw [hv]; rfl)
   refine amGo PT13_ok (h := ?_)
   (refine amRt Tryz.results131 (h := ?_); try simp [*])
  ·obtain ⟨r1, r2, r3, r4, r5⟩ := litOk_range hv
   have hw : IntKind.i64.wrap (-(xs.getD k 0)) = -(xs.getD k 0) := i64w (by omega) (by omega)
   have ho2 : okI (-(xs.getD k 0)) = true := okI_iff.2 ⟨by omega, by omega⟩
   cases hv2 : decide (-(xs.getD k 0) ∈ xs)
   ·refine amGo PT13_ok (h := ?_)
    refine k_lp (⟨k + 1, by omega, fun j hj => ?_⟩ : {k : Nat // k ≤ xs.length ∧ ∀ j, j < k → (litOk (xs.getD j 0) N && !decide (-(xs.getD j 0) ∈ xs)) = true}) (by dsimp only; omega) ?_
    ·by_cases e : j < k
     ·exact he j e
     ·obtain rfl : j = k := by omega
      rw [hv, hv2]; rfl
    ·(refine weak_id rfl ?_ ?_ <;> ((try simp only [List.mem_cons, List.not_mem_nil, or_false, forall_eq_or_imp, forall_eq]); (try simp (disch := omega) [i64w, *])))
   ·have hno := termR_no (N := N) hcc (by rw [hv, hv2]; rfl)
    refine amGo PT13_ok (h := ?_)
    (refine amRt Tryz.results131 (h := ?_); try simp [*])
 ·have hall := termR_at (N := N) (xs := xs) fun j hj => he j (by omega)
  refine amGo PT13_ok (h := ?_)
  (refine amRt Tryz.results131 (h := ?_); try simp [*])
@[simp] def g_rTerm : List AV → Option (AV × Bool)
 | [a0, .v (.int .i64 N)] => (match toInts a0 with | some xs => if (okInts xs && okI N && (decide (0 ≤ N) && decide (N ≤ 128))) = true then some (.v (.bool (termR N xs)), false) else none | none => none)
 | _ => none
theorem e_rTerm : EntOk Tryz.prog 131 g_rTerm := ent_pure (by kernel_rfl) fun args r fr h => by
 unfold g_rTerm at h
 split at h
 ·rename_i a0 N
  split at h
  ·rename_i xs t0
   split at h
   ·rename_i hc
    simp only [Bool.and_eq_true] at hc
    obtain ⟨⟨o0, o1⟩, hk⟩ := hc
    cases h
    exact ⟨FnPure.cov (rTerm_p N xs o0 o1 (of_decide_eq_true hk.1) (of_decide_eq_true hk.2)) (.cons (cov_ints t0) (.cons (Cov.refl _) .nil)), rfl⟩
   ·cases h
  ·cases h
 ·cases h

def l14 : List (FuncId × (List AV → Option (AV × Bool))) :=
 (131, g_rTerm) :: l10
theorem l14_ok : ∀ p ∈ l14, EntOk Tryz.prog p.1 p.2 := ent_cons e_rTerm (l10_ok)
def PT14 : PTab := tab l14
theorem PT14_ok : PTok Tryz.prog PT14 := tab_ok l14_ok
@[simp] theorem PT14_rTerm : PT14 131 = g_rTerm := rfl
@[simp] theorem PT14_old (f : FuncId) (h : decide (f ≠ 131) = true) : PT14 f = PT10 f := tab_old (of_decide_eq_true h)
end Go.Proofs.YtllkogdgmmcfgaaGreatDoor
/- Th3: Contracts of theory.Vars and censusref05.Vars, by the abstract machine; no condition. -/
namespace Go.Proofs.YtllkogdgmmcfgaaGreatDoor
set_option linter.unusedVariables false
set_option linter.unusedSimpArgs false
set_option linter.unusedSectionVars false
open Go.RowKit
open Wlk
attribute [-simp] List.getD_eq_getElem?_getD
set_option maxRecDepth 100000

@[simp ↓ high] theorem d_flat_set (s : BitVec 128) : (aSet s).flat = true := rfl
@[simp ↓ high] theorem d_cells_set (s : BitVec 128) : (aSet s).cells = [.v (.int .u64 ((lo s).toNat : Int)), .v (.int .u64 ((hi s).toNat : Int))] := rfl
def varsRow (S : BitVec 128) (c : List Int) (j : Nat) : BitVec 128 := (c.take j).foldl (fun s l => sWith s (litVar l)) S
def varsK (L : List (List Int)) (k : Nat) : BitVec 128 := (L.take k).foldl (fun s c => varsRow s c c.length) 0#128
def varsT (L : List (List Int)) : BitVec 128 := varsK L L.length
def varsOf (N : Int) (L : List (List Int)) : BitVec 128 := if checkT N L = 0 then varsT L else 0#128
theorem varsRow_succ (S : BitVec 128) {c : List Int} {j : Nat} (h : j < c.length) : varsRow S c (j + 1) = sWith (varsRow S c j) (litVar (c.getD j 0)) := by
 have : c.getD j 0 = c[j] := by simp [List.getD, h]
 unfold varsRow
 rw [List.take_succ_eq_append_getElem h, List.foldl_append, this]
 rfl
theorem varsK_succ {L : List (List Int)} {k : Nat} (h : k < L.length) : varsK L (k + 1) = varsRow (varsK L k) (L.getD k []) (L.getD k []).length := by
 have : L.getD k [] = L[k] := by simp [List.getD, h]
 unfold varsK
 rw [List.take_succ_eq_append_getElem h, List.foldl_append, this]
 rfl
theorem words0 : lo 0#128 = 0#64 ∧ hi 0#128 = 0#64 := ⟨by decide, by decide⟩
theorem word_add {x : BitVec 64} {k : Nat} (hk : k < 64) (h : x.getLsbD k = false) : IntKind.u64.wrap ((x.toNat : Int) + ((BitVec.twoPow 64 k).toNat : Int)) = ((x ||| BitVec.twoPow 64 k).toNat : Int) := by
 have h0 : x &&& BitVec.twoPow 64 k = 0#64 := by
  rw [BitVec.and_twoPow, h]; rfl
 rw [← BitVec.add_eq_or_of_and_eq_zero x _ h0, IntKind.wrap_u64, BitVec.toNat_add]
 omega
theorem sWith_same {S : BitVec 128} {v : Int} (h : sHas S v = true) : sWith S v = S := by
 refine sets_ext fun u h1 h2 => ?_
 rw [sHas_with]
 by_cases e : u = v
 ·subst e; rw [h]; rfl
 ·simp [e]
theorem getD_memI {xs : List Int} {k : Nat} (hk : k < xs.length) : xs.getD k 0 ∈ xs := by
 have : xs.getD k 0 = xs[k] := by simp [List.getD, hk]
 rw [this]; exact List.getElem_mem _
theorem thVars_p (N : Int) (L : List (List Int)) (hN : okI N = true) (h : okRows L = true) : FnPure Tryz.prog 49 [aTh N L] (aSet (varsOf N L)) := by
 have hm := okRows_len h
 obtain ⟨z1, z2⟩ := words0
 unfold aTh varsOf
 by_cases hz : checkT N L = 0
 ·rw [if_pos hz]
  have hck := checkT_ok hz
  refine fn_sp TT_ok Tryz.func49 (c := _) rfl (by simp [Tryz.ntmps49]) (fun B hI0 hro => ?_)
  rw [Tryz.ntmps49]
  simp only [enumA]
  refine amGo PT14_ok (h := ?_)
  refine s_loop (J := fun i : {k : Nat // k ≤ L.length} => ⟨32, [(2, .ptr 1 0 0), (3, .ptr 2 0 0), (13, aRows L), (14, .v (.int .i64 (L.length : Int))), (15, .v (.int .i64 (i.1 : Int)))], [(1, ⟨47, 2, [[.v (.int .u64 0), .v (.int .u64 0)]]⟩), (2, ⟨47, 2, [[.v (.int .u64 ((lo (varsK L i.1)).toNat : Int)), .v (.int .u64 ((hi (varsK L i.1)).toNat : Int))]]⟩)], [2, 1]⟩) (μ := fun i => L.length - i.1) ⟨0, Nat.zero_le _⟩ ?_ (fun ⟨k, hk⟩ => ?_)
  ·have hk0 : varsK L 0 = 0#128 := rfl
   (refine weak_id rfl ?_ ?_ <;> ((try simp only [List.mem_cons, List.not_mem_nil, or_false, forall_eq_or_imp, forall_eq]); (try simp (disch := omega) [i64w, *])))
  refine amGo PT14_ok (h := ?_)
  (focus ((with_reducible refine sp_cond (b := ?_) ?_ (fun hc => ?_) (fun hc => ?_)); rotate_left; (focus (first | rfl | (simp [lk, AS.ev]; rfl))); all_goals (try simp at hc)))
  ·have hcc := hc
   clear hc
   have hci := okRows_at h k
   have hcl := okInts_len hci
   refine amGo PT14_ok (h := ?_)
   refine s_loop (J := fun i : {j : Nat // j ≤ (L.getD k []).length} => ⟨32, [(2, .ptr 1 0 0), (3, .ptr 2 0 0), (13, aRows L), (14, .v (.int .i64 (L.length : Int))), (15, .v (.int .i64 (k : Int))), (19, aInts (L.getD k [])), (20, .v (.int .i64 ((L.getD k []).length : Int))), (21, .v (.int .i64 (i.1 : Int)))], [(1, ⟨47, 2, [[.v (.int .u64 0), .v (.int .u64 0)]]⟩), (2, ⟨47, 2, [[.v (.int .u64 ((lo (varsRow (varsK L k) (L.getD k []) i.1)).toNat : Int)), .v (.int .u64 ((hi (varsRow (varsK L k) (L.getD k []) i.1)).toNat : Int))]]⟩)], [2, 1]⟩) (μ := fun i => (L.getD k []).length - i.1) ⟨0, Nat.zero_le _⟩ ?_ (fun ⟨j, hj⟩ => ?_)
   ·have hk1 : varsRow (varsK L k) (L.getD k []) 0 = varsK L k := rfl
    (refine weak_id rfl ?_ ?_ <;> ((try simp only [List.mem_cons, List.not_mem_nil, or_false, forall_eq_or_imp, forall_eq]); (try simp (disch := omega) [i64w, *])))
   have hcl2 := hcl
   refine amGo PT14_ok (h := ?_)
   (focus ((with_reducible refine sp_cond (b := ?_) ?_ (fun hc => ?_) (fun hc => ?_)); rotate_left; (focus (first | rfl | (simp [lk, AS.ev]; rfl))); all_goals (try simp at hc)))
   ·have hjj := hc
    clear hc
    have hs := varsRow_succ (varsK L k) hjj
    have hli := okI_iff.2 (okInts_at hci j)
    obtain ⟨v1, v2⟩ := litVar_range ((L.getD k []).getD j 0)
    have hvi : okI (litVar ((L.getD k []).getD j 0)) = true := okI_iff.2 ⟨by omega, by omega⟩
    refine amGo PT14_ok (h := ?_)
    refine k_lp (⟨j + 1, by omega⟩ : {j : Nat // j ≤ (L.getD k []).length}) (by (try dsimp only); omega) ?_
    (refine weak_id rfl ?_ ?_ <;> ((try simp only [List.mem_cons, List.not_mem_nil, or_false, forall_eq_or_imp, forall_eq]); (try simp (disch := omega) [i64w, *])))
   ·obtain rfl : j = (L.getD k []).length := by omega
    have hs := varsK_succ hcc
    refine amGo PT14_ok (h := ?_)
    refine k_lp (⟨k + 1, by omega⟩ : {k : Nat // k ≤ L.length}) (by (try dsimp only); omega) ?_
    (refine weak_id rfl ?_ ?_ <;> ((try simp only [List.mem_cons, List.not_mem_nil, or_false, forall_eq_or_imp, forall_eq]); (try simp (disch := omega) [i64w, *])))
  ·obtain rfl : k = L.length := by omega
   refine amGo PT14_ok (h := ?_)
   (refine amRt Tryz.results49 (h := ?_); try simp [*])
   rfl
 ·rw [if_neg hz]
  have hne : (checkT N L != 0) = true := by simpa using hz
  refine fn_sp TT_ok Tryz.func49 (c := _) rfl (by simp [Tryz.ntmps49]) (fun B hI0 hro => ?_)
  rw [Tryz.ntmps49]
  simp only [enumA]
  refine amGo PT14_ok (h := ?_)
  (refine amRt Tryz.results49 (h := ?_); try simp [*])
  unfold aSet WV
  rw [z1, z2]; rfl
@[simp] def g_thVars : List AV → Option (AV × Bool)
 | [.agg [.v (.int .i64 N), a0]] => (match toRows a0 with | some L => if (okI N && okRows L) = true then some (aSet (varsOf N L), false) else none | none => none)
 | _ => none
theorem e_thVars : EntOk Tryz.prog 49 g_thVars := ent_pure (by kernel_rfl) fun args r fr h => by
 unfold g_thVars at h
 split at h
 ·rename_i N a0
  split at h
  ·rename_i L t0
   split at h
   ·rename_i hc
    simp only [Bool.and_eq_true] at hc
    obtain ⟨m0, o0⟩ := hc
    cases h
    exact ⟨FnPure.cov (thVars_p N L m0 o0) (.cons (cov_th _ (cov_rows t0)) .nil), rfl⟩
   ·cases h
  ·cases h
 ·cases h

theorem rVars_p (N : Int) (L : List (List Int)) (hN : okI N = true) (h : okRows L = true) : FnPure Tryz.prog 66 [aTh N L] (aSet (varsOf N L)) := by
 have hm := okRows_len h
 obtain ⟨z1, z2⟩ := words0
 unfold aTh varsOf
 by_cases hz : checkT N L = 0
 ·rw [if_pos hz]
  have hck := checkT_ok hz
  refine fn_sp TT_ok Tryz.func66 (c := _) rfl (by simp [Tryz.ntmps66]) (fun B hI0 hro => ?_)
  rw [Tryz.ntmps66]
  simp only [enumA]
  refine amGo PT14_ok (h := ?_)
  refine s_loop (J := fun i : {k : Nat // k ≤ L.length} => ⟨57, [(1, .ptr 0 0 0), (2, .ptr 1 0 0), (3, .ptr 2 0 0), (4, .v (.int .i64 (i.1 : Int)))], [(0, ⟨24, 2, [[.v (.int .i64 N), aRows L]]⟩), (1, ⟨47, 2, [[.v (.int .u64 0), .v (.int .u64 0)]]⟩), (2, ⟨47, 2, [[.v (.int .u64 ((lo (varsK L i.1)).toNat : Int)), .v (.int .u64 ((hi (varsK L i.1)).toNat : Int))]]⟩)], [2, 1, 0]⟩) (μ := fun i => L.length - i.1) ⟨0, Nat.zero_le _⟩ ?_ (fun ⟨k, hk⟩ => ?_)
  ·have hk0 : varsK L 0 = 0#128 := rfl
   (refine weak_id rfl ?_ ?_ <;> ((try simp only [List.mem_cons, List.not_mem_nil, or_false, forall_eq_or_imp, forall_eq]); (try simp (disch := omega) [i64w, *])))
  refine amGo PT14_ok (h := ?_)
  (focus ((with_reducible refine sp_cond (b := ?_) ?_ (fun hc => ?_) (fun hc => ?_)); rotate_left; (focus (first | rfl | (simp [lk, AS.ev]; rfl))); all_goals (try simp at hc)))
  ·have hcc := hc
   clear hc
   have hci := okRows_at h k
   have hcl := okInts_len hci
   refine amGo PT14_ok (h := ?_)
   refine s_loop (J := fun i : {j : Nat // j ≤ (L.getD k []).length} => ⟨57, [(1, .ptr 0 0 0), (2, .ptr 1 0 0), (3, .ptr 2 0 0), (4, .v (.int .i64 (k : Int))), (5, .v (.int .i64 (i.1 : Int)))], [(0, ⟨24, 2, [[.v (.int .i64 N), aRows L]]⟩), (1, ⟨47, 2, [[.v (.int .u64 0), .v (.int .u64 0)]]⟩), (2, ⟨47, 2, [[.v (.int .u64 ((lo (varsRow (varsK L k) (L.getD k []) i.1)).toNat : Int)), .v (.int .u64 ((hi (varsRow (varsK L k) (L.getD k []) i.1)).toNat : Int))]]⟩)], [2, 1, 0]⟩) (μ := fun i => (L.getD k []).length - i.1) ⟨0, Nat.zero_le _⟩ ?_ (fun ⟨j, hj⟩ => ?_)
   ·have hk1 : varsRow (varsK L k) (L.getD k []) 0 = varsK L k := rfl
    (refine weak_id rfl ?_ ?_ <;> ((try simp only [List.mem_cons, List.not_mem_nil, or_false, forall_eq_or_imp, forall_eq]); (try simp (disch := omega) [i64w, *])))
   refine amGo PT14_ok (h := ?_)
   (focus ((with_reducible refine sp_cond (b := ?_) ?_ (fun hc => ?_) (fun hc => ?_)); rotate_left; (focus (first | rfl | (simp [lk, AS.ev]; rfl))); all_goals (try simp at hc)))
   ·have hjj := hc
    clear hc
    have hs := varsRow_succ (varsK L k) hjj
    obtain ⟨r1, r2, r3, r4, r5⟩ := litOk_range ((hck.2.2.2 _ (getD_memL hcc)).2 _ (getD_memI hjj))
    have hrp := (Bool.and_eq_true_iff.1 ((hck.2.2.2 _ (getD_memL hcc)).2 _ (getD_memI hjj))).1
    have hoS : okS ((L.getD k []).getD j 0) = true := by unfold okS; rw [decide_eq_true (by omega : -128 ≤ (L.getD k []).getD j 0), decide_eq_true (by omega : (L.getD k []).getD j 0 ≤ 128)]; rfl
    have hv0 := of_decide_eq_true hrp
    have habs : absI ((L.getD k []).getD j 0) = litVar ((L.getD k []).getD j 0) := isLit_absI (by unfold isLit; exact decide_eq_true (by omega))
    obtain ⟨v1, v2⟩ := litVar_range ((L.getD k []).getD j 0)
    generalize hvv : litVar ((L.getD k []).getD j 0) = v at hs v1 v2 hv0 habs
    have hov : okI v = true := okI_iff.2 ⟨by omega, by omega⟩
    have hoi : okI ((L.getD k []).getD j 0) = true := okI_iff.2 (okInts_at hci j)
    clear hrp hvv r1 r2 r3 r4 r5
    generalize hSS : varsRow (varsK L k) (L.getD k []) j = S at hs ⊢
    cases hh : sHas S v
    ·have w1 : IntKind.i64.wrap (v - 1) = v - 1 := i64w (by omega) (by omega)
     by_cases hlo : v ≤ 64
     ·obtain ⟨q1, q2⟩ := quo64_lo (by omega : 1 ≤ v) hlo
      obtain ⟨g1, g2⟩ := shl_lo (by omega : 1 ≤ v) hlo
      obtain ⟨l1, l2⟩ := lo_with S v (by omega) hlo
      have h0 := hh
      rw [sHas_lo S v (by omega) hlo] at h0
      have g3 := word_add (by omega) h0
      rw [← l1] at g3
      generalize BitVec.twoPow 64 (v - 1).toNat = bt at g2 g3 l1
      clear l1 h0
      have f3 : ¬ (v - 1 < 0) := by omega
      have w2 : IntKind.u64.wrap (v - 1) = v - 1 := u64w (by omega) (by omega)
      refine amGo PT14_ok (h := ?_)
      refine k_lp (⟨j + 1, by omega⟩ : {j : Nat // j ≤ (L.getD k []).length}) (by (try dsimp only); omega) ?_
      (refine weak_id rfl ?_ ?_ <;> ((try simp only [List.mem_cons, List.not_mem_nil, or_false, forall_eq_or_imp, forall_eq]); (try simp (disch := omega) [i64w, *])))
     ·obtain ⟨q1, q2⟩ := quo64_hi (by omega : 65 ≤ v) v2
      obtain ⟨g1, g2⟩ := shl_hi (by omega : 65 ≤ v) v2
      obtain ⟨l1, l2⟩ := hi_with S v (by omega) v2
      have h0 := hh
      rw [sHas_hi S v (by omega) v2] at h0
      have g3 := word_add (by omega) h0
      rw [← l2] at g3
      generalize BitVec.twoPow 64 (v - 65).toNat = bt at g2 g3 l2
      generalize hq : (v - 65).toNat = q at g1 g2
      clear l2 h0
      have f3 : ¬ (v - 65 < 0) := by omega
      have w2 : IntKind.u64.wrap (v - 65) = v - 65 := u64w (by omega) (by omega)
      refine amGo PT14_ok (h := ?_)
      refine k_lp (⟨j + 1, by omega⟩ : {j : Nat // j ≤ (L.getD k []).length}) (by (try dsimp only); omega) ?_
      (refine weak_id rfl ?_ ?_ <;> ((try simp only [List.mem_cons, List.not_mem_nil, or_false, forall_eq_or_imp, forall_eq]); (try simp (disch := omega) [i64w, *])))
    ·have hsame : sWith S v = S := sWith_same hh
     refine amGo PT14_ok (h := ?_)
     refine k_lp (⟨j + 1, by omega⟩ : {j : Nat // j ≤ (L.getD k []).length}) (by (try dsimp only); omega) ?_
     (refine weak_id rfl ?_ ?_ <;> ((try simp only [List.mem_cons, List.not_mem_nil, or_false, forall_eq_or_imp, forall_eq]); (try simp (disch := omega) [i64w, *])))
   ·obtain rfl : j = (L.getD k []).length := by omega
    have hs := varsK_succ hcc
    refine amGo PT14_ok (h := ?_)
    refine k_lp (⟨k + 1, by omega⟩ : {k : Nat // k ≤ L.length}) (by (try dsimp only); omega) ?_
    (refine weak_id rfl ?_ ?_ <;> ((try simp only [List.mem_cons, List.not_mem_nil, or_false, forall_eq_or_imp, forall_eq]); (try simp (disch := omega) [i64w, *])))
  ·obtain rfl : k = L.length := by omega
   refine amGo PT14_ok (h := ?_)
   (refine amRt Tryz.results66 (h := ?_); try simp [*])
   rfl
 ·rw [if_neg hz]
  have hne : (checkT N L != 0) = true := by simpa using hz
  refine fn_sp TT_ok Tryz.func66 (c := _) rfl (by simp [Tryz.ntmps66]) (fun B hI0 hro => ?_)
  rw [Tryz.ntmps66]
  simp only [enumA]
  refine amGo PT14_ok (h := ?_)
  (refine amRt Tryz.results66 (h := ?_); try simp [*])
  unfold aSet WV
  rw [z1, z2]; rfl
@[simp] def g_rVars : List AV → Option (AV × Bool)
 | [.agg [.v (.int .i64 N), a0]] => (match toRows a0 with | some L => if (okI N && okRows L) = true then some (aSet (varsOf N L), false) else none | none => none)
 | _ => none
theorem e_rVars : EntOk Tryz.prog 66 g_rVars := ent_pure (by kernel_rfl) fun args r fr h => by
 unfold g_rVars at h
 split at h
 ·rename_i N a0
  split at h
  ·rename_i L t0
   split at h
   ·rename_i hc
    simp only [Bool.and_eq_true] at hc
    obtain ⟨m0, o0⟩ := hc
    cases h
    exact ⟨FnPure.cov (rVars_p N L m0 o0) (.cons (cov_th _ (cov_rows t0)) .nil), rfl⟩
   ·cases h
  ·cases h
 ·cases h

def l15 : List (FuncId × (List AV → Option (AV × Bool))) :=
 (49, g_thVars) :: (66, g_rVars) :: l14
theorem l15_ok : ∀ p ∈ l15, EntOk Tryz.prog p.1 p.2 := ent_cons e_thVars (ent_cons e_rVars (l14_ok))
def PT15 : PTab := tab l15
theorem PT15_ok : PTok Tryz.prog PT15 := tab_ok l15_ok
@[simp] theorem PT15_thVars : PT15 49 = g_thVars := rfl
@[simp] theorem PT15_rVars : PT15 66 = g_rVars := rfl
@[simp] theorem PT15_old (f : FuncId) (h : decide (f ≠ 49 ∧ f ≠ 66) = true) : PT15 f = PT14 f := (fun h => Eq.trans (tab_old h.1) (tab_old h.2)) (of_decide_eq_true h)
end Go.Proofs.YtllkogdgmmcfgaaGreatDoor
/- Arr: Arrays whose cells are given by a function, on the abstract machine; plain lemmas; no condition. -/
namespace Go.Proofs.YtllkogdgmmcfgaaGreatDoor
set_option linter.unusedVariables false
set_option linter.unusedSimpArgs false
set_option linter.unusedSectionVars false
open Go.RowKit

def fnRow (n : Nat) (f : Nat → AV) : List AV := (List.range n).map f
@[simp ↓ high] theorem d_len_fn (n : Nat) (f : Nat → AV) : (fnRow n f).length = n := by simp [fnRow]
theorem fn_getD {n j : Nat} (f : Nat → AV) (h : j < n) : (fnRow n f).getD j .any = f j := by simp [fnRow, List.getD, h]
theorem fn_ext {n : Nat} {r : List AV} {f : Nat → AV} (hl : r.length = n) (h : ∀ i, i < n → r.getD i .any = f i) : r = fnRow n f := by
 refine List.ext_getElem (by simp [fnRow, hl]) fun i h1 h2 => ?_
 have := h i (by omega)
 simpa [List.getD, h1, fnRow] using this
theorem fn_spl {n j : Nat} {f : Nat → AV} (v : AV) (h : j < n) : spl (fnRow n f) j [v] = fnRow n (fun i => if i = j then v else f i) := by
 refine fn_ext (by rw [spl_len (by rw [d_len_fn]; simp; omega), d_len_fn]) fun i hi => ?_
 rw [spl_getD (by rw [d_len_fn]; simp; omega)]
 by_cases e : i = j
 ·subst e; rw [if_pos (by simp), if_pos rfl]; simp
 ·rw [if_neg (by simp; omega), if_neg e, fn_getD f hi]
theorem ld_fn {ti : TI} {n j : Nat} {f : Nat → AV} (hg : ti.agg = false) (h : j < n) : ldA ti ((fnRow n f).drop j) = f j := by
 unfold ldA
 rw [hg, if_neg (by simp)]
 have := fn_getD f h
 simpa [List.getD, List.getElem?_drop] using this
theorem idsL_fn {n : Nat} {f : Nat → AV} (h : ∀ i, (f i).ids = []) : idsL (fnRow n f) = [] := by
 unfold fnRow
 generalize List.range n = l
 induction l with
 | nil => rfl
 | cons a l ih => simp [idsL, h a, ih]
theorem renL_fn {n : Nat} {f : Nat → AV} (ρ : Nat → Nat) (h : ∀ i, (f i).ids = []) : renL ρ (fnRow n f) = fnRow n f := renL_pure ρ _ (idsL_fn h)
def bRow (n : Nat) (f : Nat → Bool) : List AV := fnRow n fun i => .v (.bool (f i))
@[simp ↓ high] theorem d_len_b (n : Nat) (f : Nat → Bool) : (bRow n f).length = n := d_len_fn _ _
@[simp ↓ high] theorem d_ids_b (n : Nat) (f : Nat → Bool) : idsL (bRow n f) = [] := idsL_fn fun _ => rfl
@[simp ↓ high] theorem d_ren_b (ρ : Nat → Nat) (n : Nat) (f : Nat → Bool) : renL ρ (bRow n f) = bRow n f := renL_fn ρ fun _ => rfl
theorem b_spl {n j : Nat} {f : Nat → Bool} (b : Bool) (h : j < n) : spl (bRow n f) j [.v (.bool b)] = bRow n (fun i => if i = j then b else f i) := by
 unfold bRow
 rw [fn_spl _ h]
 congr 1
 funext i
 by_cases e : i = j <;> simp [e]
end Go.Proofs.YtllkogdgmmcfgaaGreatDoor
/- Pl0: Lists in order, each member once; plain lemmas over any program; no condition. -/
namespace Go.Proofs.YtllkogdgmmcfgaaGreatDoor
set_option linter.unusedVariables false
set_option linter.unusedSimpArgs false
set_option linter.unusedSectionVars false
open Go.RowKit

theorem strict_unique {α : Type} {lt : α → α → Prop} (asymm : ∀ a b, lt a b → ¬ lt b a) : ∀ {xs ys : List α}, xs.Pairwise lt → ys.Pairwise lt → (∀ z, z ∈ xs ↔ z ∈ ys) → xs = ys
 | [], [], _, _, _ => rfl
 | [], y :: ys, _, _, h => by have := (h y).2 (by simp); cases this
 | x :: xs, [], _, _, h => by have := (h x).1 (by simp); cases this
 | x :: xs, y :: ys, hx, hy, h => by
  rw [List.pairwise_cons] at hx hy
  have irr : ∀ a, ¬ lt a a := fun a ha => asymm a a ha ha
  have hxy : x = y := by
   rcases List.mem_cons.1 ((h x).1 (by simp)) with e | e
   ·exact e
   ·rcases List.mem_cons.1 ((h y).2 (by simp)) with e2 | e2
    ·exact e2.symm
    ·exact absurd (hx.1 y e2) (asymm _ _ (hy.1 x e))
  subst hxy
  rw [strict_unique asymm hx.2 hy.2 fun z => ?_]
  constructor
  ·intro hz
   rcases List.mem_cons.1 ((h z).1 (List.mem_cons_of_mem _ hz)) with e | e
   ·subst e; exact absurd (hx.1 z hz) (irr z)
   ·exact e
  ·intro hz
   rcases List.mem_cons.1 ((h z).2 (List.mem_cons_of_mem _ hz)) with e | e
   ·subst e; exact absurd (hy.1 z hz) (irr z)
   ·exact e

def oncesK {α : Type} [DecidableEq α] (d : α) (zs : List α) (k : Nat) : List α := (List.range k).filterMap fun i => if i = 0 ∨ zs.getD (i - 1) d ≠ zs.getD i d then some (zs.getD i d) else none
theorem oncesK_succ {α : Type} [DecidableEq α] (d : α) (zs : List α) (k : Nat) : oncesK d zs (k + 1) = oncesK d zs k ++ if k = 0 ∨ zs.getD (k - 1) d ≠ zs.getD k d then [zs.getD k d] else [] := by
 unfold oncesK
 rw [List.range_succ, List.filterMap_append]
 congr 1
 by_cases h : k = 0 ∨ zs.getD (k - 1) d ≠ zs.getD k d
 ·rw [List.filterMap_cons, if_pos h, if_pos h]; rfl
 ·rw [List.filterMap_cons, if_neg h, if_neg h]; rfl
theorem oncesK_strict {α : Type} [DecidableEq α] (d : α) {lt le : α → α → Prop} (hle : ∀ a b, le a b → a = b ∨ lt a b) (hlt : ∀ a b c, lt a b → le b c → lt a c) {zs : List α} (hz : zs.Pairwise le) : ∀ k, k ≤ zs.length →
  (oncesK d zs k).Pairwise lt ∧ (∀ z, z ∈ oncesK d zs k ↔ z ∈ zs.take k) ∧ ∀ z ∈ oncesK d zs k, 0 < k → z = zs.getD (k - 1) d ∨ lt z (zs.getD (k - 1) d)
 | 0, _ => by simp [oncesK]
 | k + 1, hk => by
  obtain ⟨h1, h2, h3⟩ := oncesK_strict d hle hlt hz k (by omega)
  have hget : zs.getD k d = zs[k] := by simp [List.getD, show k < zs.length by omega]
  have hmem : ∀ z, z ∈ zs.take (k + 1) ↔ z ∈ zs.take k ∨ z = zs.getD k d := fun z => by
   rw [List.take_succ_eq_append_getElem (by omega), List.mem_append, hget]; simp
  rw [oncesK_succ]
  by_cases hd : k = 0 ∨ zs.getD (k - 1) d ≠ zs.getD k d
  ·rw [if_pos hd]
   have hall : ∀ z ∈ oncesK d zs k, lt z (zs.getD k d) := fun z hz' => by
    rcases Nat.eq_zero_or_pos k with h0 | h0
    ·subst h0; simp [oncesK] at hz'
    ·have hne : zs.getD (k - 1) d ≠ zs.getD k d := hd.resolve_left (by omega)
     have hg1 : zs.getD (k - 1) d = zs[k - 1] := by simp [List.getD, show k - 1 < zs.length by omega]
     have hstep : lt (zs.getD (k - 1) d) (zs.getD k d) := by
      have := (List.pairwise_iff_getElem.1 hz) (k - 1) k (by omega) (by omega) (by omega)
      rw [hg1, hget] at hne ⊢
      exact (hle _ _ this).resolve_left hne
     rcases h3 z hz' h0 with e | e
     ·rw [e]; exact hstep
     ·refine hlt _ _ _ e ?_
      have := (List.pairwise_iff_getElem.1 hz) (k - 1) k (by omega) (by omega) (by omega)
      rw [hg1, hget]; exact this
   refine ⟨?_, fun z => ?_, fun z hz' _ => ?_⟩
   ·rw [List.pairwise_append]
    refine ⟨h1, by simp, fun a ha b hb => ?_⟩
    rw [List.mem_singleton] at hb; subst hb; exact hall a ha
   ·rw [List.mem_append, List.mem_singleton, hmem, h2]
   ·rw [List.mem_append, List.mem_singleton] at hz'
    rcases hz' with hz' | hz'
    ·exact .inr (hall z hz')
    ·exact .inl hz'
  ·rw [if_neg hd, List.append_nil]
   have h0 : 0 < k := by omega
   have he : zs.getD (k - 1) d = zs.getD k d := Decidable.not_not.1 fun h => hd (.inr h)
   refine ⟨h1, fun z => ?_, fun z hz' _ => ?_⟩
   ·rw [hmem, h2]
    constructor
    ·exact .inl
    ·rintro (h | h)
     ·exact h
     ·rw [h, ← he]
      have hg1 : zs.getD (k - 1) d = zs[k - 1] := by simp [List.getD, show k - 1 < zs.length by omega]
      rw [hg1]
      exact List.mem_take_iff_getElem.2 ⟨k - 1, by omega, rfl⟩
   ·have := h3 z hz' h0
    rw [he] at this; exact this
theorem compactUpTo_onces (zs : List Int) : ∀ k, k ≤ zs.length → Lib.compactUpTo zs.toArray k = oncesK 0 zs k
 | 0, _ => rfl
 | k + 1, hk => by
  rw [Lib.compactUpTo_succ, compactUpTo_onces zs k (by omega), oncesK_succ]
  congr 1
  have e1 : zs.toArray[k]! = zs.getD k 0 := by simp [List.getD, show k < zs.length by omega]
  have e2 : zs.toArray[k - 1]! = zs.getD (k - 1) 0 := by simp [List.getD, show k - 1 < zs.length by omega]
  unfold Lib.keeps
  rw [e1, e2]
  by_cases h : k = 0 ∨ zs.getD (k - 1) 0 ≠ zs.getD k 0
  ·rw [if_pos h, if_pos]
   rcases h with h | h
   ·simp [h]
   ·simp only [decide_eq_true_eq]; exact .inr (Ne.symm h)
  ·rw [if_neg h, if_neg]
   simp only [decide_eq_true_eq]
   rintro (h2 | h2)
   ·exact h (.inl h2)
   ·exact h (.inr (Ne.symm h2))
theorem compact_onces (zs : List Int) : Lib.compact zs = oncesK 0 zs zs.length := compactUpTo_onces zs _ (Nat.le_refl _)
end Go.Proofs.YtllkogdgmmcfgaaGreatDoor
/- Pl1: What theory.Normal computes is what the document's Normal computes; plain lemmas; no condition. -/
namespace Go.Proofs.YtllkogdgmmcfgaaGreatDoor
set_option linter.unusedVariables false
set_option linter.unusedSimpArgs false
set_option linter.unusedSectionVars false
open Go.RowKit

/-! ### Literals in order -/
def litLt (x y : Int) : Prop := litVar x < litVar y ∨ (litVar x = litVar y ∧ x < y)
theorem litLt_asymm (a b : Int) (h : litLt a b) : ¬ litLt b a := by unfold litLt at *; omega
theorem litVar_abs {x n : Int} (h : litOk x n = true) : (litVar x = x ∨ litVar x = -x) ∧ 1 ≤ litVar x ∧ litVar x ≤ n ∧ (litVar x = x → 1 ≤ x) ∧ (litVar x = -x → x ≤ -1) := by
 have h2 := litOk_range h
 unfold litOk at h
 simp only [Bool.and_eq_true, decide_eq_true_eq] at h
 unfold litVar at *
 split
 ·rw [if_pos (by assumption)] at h; omega
 ·rename_i h3
  rw [if_neg h3] at h
  split
  ·rw [if_pos (by assumption)] at h; omega
  ·rw [if_neg (by assumption)] at h; omega
theorem litVar_small {k : Nat} (hk : k < 128) : litVar ((k : Int) + 1) = (k : Int) + 1 ∧ litVar (-((k : Int) + 1)) = (k : Int) + 1 :=
 ⟨litVar_pos (by omega) (by omega), by rw [litVar_neg (by omega) (by omega)]; omega⟩
theorem mem_sortK {c : List Int} {y : Int} : ∀ {k : Nat}, y ∈ sortK c k ↔ y ∈ c ∧ ((1 ≤ y ∧ y ≤ k) ∨ (y ≤ -1 ∧ -(k : Int) ≤ y))
 | 0 => by simp [sortK]; omega
 | k + 1 => by
  rw [sortK_succ, List.mem_append, List.mem_append, mem_sortK (k := k)]
  have e1 : (y ∈ (if -((k : Int) + 1) ∈ c then [-((k : Int) + 1)] else [])) ↔ (y ∈ c ∧ y = -((k : Int) + 1)) := by
   split
   ·rename_i h; rw [List.mem_singleton]; constructor
    ·rintro rfl; exact ⟨h, rfl⟩
    ·exact fun h => h.2
   ·rename_i h; constructor
    ·intro h2; cases h2
    ·rintro ⟨h1, rfl⟩; exact absurd h1 h
  have e2 : (y ∈ (if (k : Int) + 1 ∈ c then [(k : Int) + 1] else [])) ↔ (y ∈ c ∧ y = (k : Int) + 1) := by
   split
   ·rename_i h; rw [List.mem_singleton]; constructor
    ·rintro rfl; exact ⟨h, rfl⟩
    ·exact fun h => h.2
   ·rename_i h; constructor
    ·intro h2; cases h2
    ·rintro ⟨h1, rfl⟩; exact absurd h1 h
  rw [e1, e2]
  constructor
  ·rintro (⟨h1, h2⟩ | ⟨h1, h2⟩ | ⟨h1, h2⟩)
   ·exact ⟨h1, by omega⟩
   ·exact ⟨h1, by omega⟩
   ·exact ⟨h1, by omega⟩
  ·rintro ⟨h1, h2⟩
   by_cases h3 : y = -((k : Int) + 1)
   ·exact .inr (.inl ⟨h1, h3⟩)
   ·by_cases h4 : y = (k : Int) + 1
    ·exact .inr (.inr ⟨h1, h4⟩)
    ·exact .inl ⟨h1, by omega⟩
theorem sortK_var {c : List Int} {k : Nat} (hk : k ≤ 128) {y : Int} (h : y ∈ sortK c k) : 1 ≤ litVar y ∧ litVar y ≤ k := by
 obtain ⟨_, h2⟩ := mem_sortK.1 h
 rcases h2 with h2 | h2
 ·rw [litVar_pos (by omega) (by omega)]; omega
 ·rw [litVar_neg (by omega) (by omega)]; omega
theorem sortK_strict (c : List Int) : ∀ k, k ≤ 128 → (sortK c k).Pairwise litLt
 | 0, _ => by simp [sortK]
 | k + 1, hk => by
  obtain ⟨v1, v2⟩ := litVar_small (k := k) (by omega)
  rw [sortK_succ, List.pairwise_append]
  refine ⟨sortK_strict c k (by omega), ?_, fun a ha b hb => ?_⟩
  ·rw [List.pairwise_append]
   refine ⟨by split <;> simp, by split <;> simp, fun a ha b hb => ?_⟩
   split at ha
   ·split at hb
    ·rw [List.mem_singleton] at ha hb
     subst ha hb
     unfold litLt; omega
    ·cases hb
   ·cases ha
  ·have h1 := sortK_var (by omega) ha
   have hb' : b = -((k : Int) + 1) ∨ b = (k : Int) + 1 := by
    rcases List.mem_append.1 hb with hb | hb
    ·split at hb
     ·exact .inl (by simpa using hb)
     ·cases hb
    ·split at hb
     ·exact .inr (by simpa using hb)
     ·cases hb
   unfold litLt
   rcases hb' with rfl | rfl <;> omega
theorem sortLits_pairwise (c : List Int) : (sortLits c).Pairwise fun a b => litLe a b = true := by
 unfold sortLits
 refine List.pairwise_mergeSort (fun a b c h1 h2 => ?_) (fun a b => ?_) c
 ·simp only [litLe, Bool.not_eq_true', decide_eq_false_iff_not] at *
  rw [cmpLit_lt] at *
  omega
 ·simp only [litLe, Bool.or_eq_true, Bool.not_eq_true', decide_eq_false_iff_not]
  rw [cmpLit_lt, cmpLit_lt]
  omega
theorem orderL_strict {c : List Int} (h : ∀ y ∈ c, 1 ≤ litVar y) : (orderL c).Pairwise litLt := by
 unfold orderL
 rw [compact_onces]
 have h1 := sortLits_pairwise c
 refine (oncesK_strict (lt := litLt) 0 (fun a b hab => ?_) (fun a b d h2 h3 => ?_) h1 _ (Nat.le_refl _)).1
 ·simp only [litLe, Bool.not_eq_true', decide_eq_false_iff_not] at hab
  rw [cmpLit_lt] at hab
  unfold litLt
  omega
 ·simp only [litLe, Bool.not_eq_true', decide_eq_false_iff_not] at h3
  rw [cmpLit_lt] at h3
  unfold litLt at *
  omega
theorem orderL_sortK {c : List Int} {N : Int} (hN : 0 ≤ N ∧ N ≤ 128) (h : ∀ y ∈ c, litOk y N = true) : orderL c = sortK c N.toNat := by
 refine strict_unique litLt_asymm (orderL_strict fun y hy => (litVar_abs (h y hy)).2.1) (sortK_strict c N.toNat (by omega)) fun z => ?_
 rw [mem_orderL, mem_sortK]
 constructor
 ·intro hz
  have := litVar_abs (h z hz)
  exact ⟨hz, by omega⟩
 ·exact fun h => h.1
theorem adjOpp_snoc (x : Int) : ∀ (l : List Int), adjOpp (l ++ [x]) = (adjOpp l || match l.getLast? with
  | some y => decide (x = -y)
  | none => false)
 | [] => by simp [adjOpp]
 | [y] => by simp [adjOpp]
 | y :: z :: r => by
  have ih := adjOpp_snoc x (z :: r)
  simp only [List.cons_append] at ih ⊢
  simp only [adjOpp, ih]
  rw [List.getLast?_cons_cons]
  cases decide (z = -y) <;> simp
theorem adjOpp_sortK (c : List Int) : ∀ k, k ≤ 128 → adjOpp (sortK c k) = altK c k
 | 0, _ => by simp [sortK, altK, adjOpp]
 | k + 1, hk => by
  have ih := adjOpp_sortK c k (by omega)
  have hlast : ∀ y, (sortK c k).getLast? = some y → 1 ≤ litVar y ∧ litVar y ≤ k := fun y hy => sortK_var (by omega) (List.mem_of_getLast? hy)
  obtain ⟨v1, v2⟩ := litVar_small (k := k) (by omega)
  have hneg : ∀ y, (sortK c k).getLast? = some y → -((k : Int) + 1) ≠ -y ∧ (k : Int) + 1 ≠ -y := fun y hy => by
   have := hlast y hy
   constructor
   ·intro e
    have : y = (k : Int) + 1 := by omega
    subst this; omega
   ·intro e
    have : y = -((k : Int) + 1) := by omega
    subst this; omega
  rw [sortK_succ, altK_succ, ← ih]
  by_cases h1 : -((k : Int) + 1) ∈ c
  ·by_cases h2 : (k : Int) + 1 ∈ c
   ·rw [if_pos h1, if_pos h2, ← List.append_assoc, adjOpp_snoc]
    simp [h1, h2]
   ·rw [if_pos h1, if_neg h2, List.append_nil, adjOpp_snoc]
    cases hl : (sortK c k).getLast? with
    | none => simp [h2]
    | some y => simp [h2, (hneg y hl).1]
  ·by_cases h2 : (k : Int) + 1 ∈ c
   ·rw [if_neg h1, if_pos h2, List.nil_append, adjOpp_snoc]
    cases hl : (sortK c k).getLast? with
    | none => simp [h1]
    | some y => simp [h1, (hneg y hl).2]
   ·rw [if_neg h1, if_neg h2]; simp [h1, h2]
theorem adjOpp_altK {c : List Int} {N : Int} (hN : 0 ≤ N ∧ N ≤ 128) (h : ∀ y ∈ c, litOk y N = true) : adjOpp (orderL c) = altK c N.toNat := by
 rw [orderL_sortK hN h, adjOpp_sortK c N.toNat (by omega)]

/-! ### Clauses in order -/
def clLt (a b : List Int) : Prop := (Lits a ∧ Lits b) ∧ cmpC a b < 0
theorem clLt_asymm (a b : List Int) (h : clLt a b) : ¬ clLt b a := fun k => by
 have := (cmpC_anti h.1.1 h.1.2).2.1 h.2
 have := k.2
 omega
def clLeP (a b : List Int) : Prop := (Lits a ∧ Lits b) ∧ clLe a b = true
theorem distL_strict {L : List (List Int)} (h : ∀ c ∈ L, Lits c) : (distL (sortRows L)).Pairwise clLt ∧ ∀ z, z ∈ distL (sortRows L) ↔ z ∈ L := by
 have hp : (sortRows L).Pairwise clLeP := by
  have h1 := pairwise_mergeSort_of h
  have h2 : ∀ c ∈ sortRows L, Lits c := fun c hc => h c ((sortRows_perm L).mem_iff.1 hc)
  rw [List.pairwise_iff_getElem] at h1 ⊢
  exact fun i j hi hj hij => ⟨⟨h2 _ (List.getElem_mem _), h2 _ (List.getElem_mem _)⟩, h1 i j hi hj hij⟩
 obtain ⟨h1, h2, _⟩ := oncesK_strict (lt := clLt) (le := clLeP) [] (fun a b hab => by
  obtain ⟨⟨ha, hb⟩, hab⟩ := hab
  simp only [clLe, Bool.not_eq_true', decide_eq_false_iff_not] at hab
  have k1 := cmpC_anti ha hb
  have k2 := (cmpC_anti hb ha).2
  by_cases h0 : cmpC a b = 0
  ·exact .inl (k1.1 h0)
  ·exact .inr ⟨⟨ha, hb⟩, by omega⟩) (fun a b d hab hbd => by
  obtain ⟨⟨ha, hb⟩, hab⟩ := hab
  obtain ⟨⟨_, hd⟩, hbd⟩ := hbd
  refine ⟨⟨ha, hd⟩, ?_⟩
  simp only [clLe, Bool.not_eq_true', decide_eq_false_iff_not] at hbd
  have k2 := (cmpC_anti hd hb).2
  by_cases h0 : cmpC d b = 0
  ·have := (cmpC_anti hd hb).1 h0; subst this; exact hab
  ·have k3 : cmpC b d < 0 := (cmpC_anti hb hd).2.2 (by omega)
   exact cmpC_trans ha hb hd hab k3) hp _ (Nat.le_refl _)
 refine ⟨h1, fun z => ?_⟩
 have : z ∈ distL (sortRows L) ↔ z ∈ (sortRows L).take (sortRows L).length := h2 z
 rw [this, List.take_length]
 exact (sortRows_perm L).mem_iff
theorem putL_strict {c : List Int} (hc : Lits c) {L : List (List Int)} (hL : L.Pairwise clLt) (hl : ∀ d ∈ L, Lits d) : (putL L c).Pairwise clLt ∧ ∀ z, z ∈ putL L c ↔ z ∈ L ∨ z = c := by
 have key : ∀ k, k ≤ L.length → (putK L c k).1.Pairwise clLt ∧ ((putK L c k).2 = false → (putK L c k).1 = L.take k ∧ ∀ d ∈ L.take k, cmpC d c < 0) ∧
   ((putK L c k).2 = true → (∀ z, z ∈ (putK L c k).1 ↔ z ∈ L.take k ∨ z = c) ∧ ∃ d ∈ L.take k, ¬ cmpC d c < 0) := by
  intro k
  induction k with
  | zero => intro _; simp [putK]
  | succ k ih =>
   intro hk
   obtain ⟨h1, h2, h3⟩ := ih (by omega)
   have hget : L.getD k [] = L[k] := by simp [List.getD, show k < L.length by omega]
   have hmem : ∀ z, z ∈ L.take (k + 1) ↔ z ∈ L.take k ∨ z = L.getD k [] := fun z => by
    rw [List.take_succ_eq_append_getElem (by omega), List.mem_append, hget]; simp
   have hdl : Lits (L.getD k []) := by rw [hget]; exact hl _ (List.getElem_mem _)
   have hbefore : ∀ z ∈ L.take k, clLt z (L.getD k []) := fun z hz => by
    obtain ⟨i, hi, rfl⟩ := List.mem_take_iff_getElem.1 hz
    rw [hget]
    exact (List.pairwise_iff_getElem.1 hL) i k (by omega) (by omega) (by omega)
   rw [putK_succ L c (by omega)]
   unfold putStep
   generalize L.getD k [] = d at *
   cases hb : (putK L c k).2
   ·obtain ⟨e1, e2⟩ := h2 hb
    by_cases hd : cmpC d c < 0
    ·rw [if_neg (by simp [hd])]
     refine ⟨?_, fun _ => ⟨?_, ?_⟩, fun h => by simp at h⟩
     ·rw [List.pairwise_append]
      refine ⟨h1, by simp, fun a ha b hb => ?_⟩
      rw [List.mem_singleton] at hb; subst hb
      rw [e1] at ha; exact hbefore a ha
     ·rw [e1, List.take_succ_eq_append_getElem (by omega), hget]
     ·intro z hz
      rcases (hmem z).1 hz with h | rfl
      ·exact e2 z h
      ·exact hd
    ·rw [if_pos ⟨rfl, hd⟩]
     refine ⟨?_, fun h => by simp at h, fun _ => ⟨fun z => ?_, d, (hmem d).2 (.inr rfl), hd⟩⟩
     ·dsimp only
      split
      ·rename_i hcd
       rw [List.append_assoc, List.pairwise_append]
       refine ⟨h1, ?_, fun a ha b hb => ?_⟩
       ·rw [List.pairwise_append]
        refine ⟨by simp, by simp, fun a ha b hb => ?_⟩
        rw [List.mem_singleton] at ha hb; rw [ha, hb]
        exact ⟨⟨hc, hdl⟩, hcd⟩
       ·rw [e1] at ha
        rcases List.mem_append.1 hb with hb | hb
        ·rw [List.mem_singleton] at hb; subst hb
         exact ⟨⟨(hbefore a ha).1.1, hc⟩, e2 a ha⟩
        ·rw [List.mem_singleton] at hb; subst hb
         exact hbefore a ha
      ·rw [List.pairwise_append]
       refine ⟨h1, by simp, fun a ha b hb => ?_⟩
       rw [List.mem_singleton] at hb; subst hb
       rw [e1] at ha; exact hbefore a ha
     ·dsimp only
      split
      ·rw [List.mem_append, List.mem_append, List.mem_singleton, List.mem_singleton, e1, hmem]
       constructor
       ·rintro ((h | h) | h)
        ·exact .inl (.inl h)
        ·exact .inr h
        ·exact .inl (.inr h)
       ·rintro ((h | h) | h)
        ·exact .inl (.inl h)
        ·exact .inr h
        ·exact .inl (.inr h)
      ·rename_i hcd
       have e0 : d = c := by
        have k2 := (cmpC_anti hc hdl).2
        have k3 := (cmpC_anti hdl hc).2
        exact (cmpC_anti hdl hc).1 (by omega)
       rw [List.mem_append, List.mem_singleton, e1, hmem, e0]
       constructor
       ·rintro (h | h)
        ·exact .inl (.inl h)
        ·exact .inr h
       ·rintro ((h | h) | h)
        ·exact .inl h
        ·exact .inr h
        ·exact .inr h
   ·obtain ⟨e1, d0, hd0, hnd⟩ := h3 hb
    rw [if_neg (by simp)]
    refine ⟨?_, fun h => by simp at h, fun _ => ⟨fun z => ?_, d0, (hmem d0).2 (.inl hd0), hnd⟩⟩
    ·dsimp only
     rw [List.pairwise_append]
     refine ⟨h1, by simp, fun a ha b hb => ?_⟩
     rw [List.mem_singleton] at hb; subst hb
     rcases (e1 a).1 ha with h | rfl
     ·exact hbefore a h
     ·have h5 := hbefore d0 hd0
      refine ⟨⟨hc, hdl⟩, ?_⟩
      have k3 := (cmpC_anti hc h5.1.1).2
      by_cases h0 : cmpC a d0 = 0
      ·have := (cmpC_anti hc h5.1.1).1 h0; subst this; exact h5.2
      ·have k4 := (cmpC_anti h5.1.1 hc).2
       exact cmpC_trans hc h5.1.1 hdl (by omega) h5.2
    ·dsimp only
     rw [List.mem_append, List.mem_singleton, e1, hmem]
     constructor
     ·rintro ((h | h) | h)
      ·exact .inl (.inl h)
      ·exact .inr h
      ·exact .inl (.inr h)
     ·rintro ((h | h) | h)
      ·exact .inl (.inl h)
      ·exact .inr h
      ·exact .inl (.inr h)
 obtain ⟨h1, h2, h3⟩ := key L.length (Nat.le_refl _)
 unfold putL
 split
 ·rename_i hb
  obtain ⟨e1, _⟩ := h3 hb
  rw [List.take_length] at e1
  exact ⟨h1, e1⟩
 ·rename_i hb
  obtain ⟨e1, e2⟩ := h2 (by simpa using hb)
  rw [List.take_length] at e1 e2
  refine ⟨?_, fun z => by rw [List.mem_append, List.mem_singleton, e1]⟩
  rw [List.pairwise_append]
  refine ⟨h1, by simp, fun a ha b hb => ?_⟩
  rw [List.mem_singleton] at hb; subst hb
  rw [e1] at ha
  exact ⟨⟨hl a ha, hc⟩, e2 a ha⟩
theorem rNormK_strict (N : Int) (L : List (List Int)) (hN : N.toNat ≤ 128) : ∀ k, k ≤ L.length → (rNormK N L k).Pairwise clLt ∧ ∀ z, z ∈ rNormK N L k ↔ ∃ c ∈ L.take k, altK c N.toNat = false ∧ z = sortK c N.toNat
 | 0, _ => by simp [rNormK]
 | k + 1, hk => by
  obtain ⟨h1, h2⟩ := rNormK_strict N L hN k (by omega)
  have hget : L.getD k [] = L[k] := by simp [List.getD, show k < L.length by omega]
  have hmem : ∀ z, z ∈ L.take (k + 1) ↔ z ∈ L.take k ∨ z = L.getD k [] := fun z => by
   rw [List.take_succ_eq_append_getElem (by omega), List.mem_append, hget]; simp
  rw [rNormK_succ N L (by omega)]
  generalize L.getD k [] = d at *
  cases ha : altK d N.toNat
  ·rw [if_neg (by simp)]
   obtain ⟨g1, g2⟩ := putL_strict (sortK_lits d hN) h1 (fun e he => by
    obtain ⟨c, _, _, rfl⟩ := (h2 e).1 he
    exact sortK_lits c hN)
   refine ⟨g1, fun z => ?_⟩
   rw [g2, h2]
   constructor
   ·rintro (⟨c, hc, h3, h4⟩ | rfl)
    ·exact ⟨c, (hmem c).2 (.inl hc), h3, h4⟩
    ·exact ⟨d, (hmem d).2 (.inr rfl), ha, rfl⟩
   ·rintro ⟨c, hc, h3, h4⟩
    rcases (hmem c).1 hc with hc | rfl
    ·exact .inl ⟨c, hc, h3, h4⟩
    ·exact .inr h4
  ·rw [if_pos rfl]
   refine ⟨h1, fun z => ?_⟩
   rw [h2]
   constructor
   ·rintro ⟨c, hc, h3, h4⟩
    exact ⟨c, (hmem c).2 (.inl hc), h3, h4⟩
   ·rintro ⟨c, hc, h3, h4⟩
    rcases (hmem c).1 hc with hc | rfl
    ·exact ⟨c, hc, h3, h4⟩
    ·rw [ha] at h3; cases h3
theorem normL_rNorm {N : Int} {L : List (List Int)} (hz : checkT N L = 0) : normL L = rNormK N L L.length := by
 obtain ⟨h0, h1, _, h3⟩ := checkT_ok hz
 have hopen : ∀ z, z ∈ openL L ↔ ∃ c ∈ L, altK c N.toNat = false ∧ z = sortK c N.toNat := fun z => by
  unfold openL
  rw [List.mem_map]
  constructor
  ·rintro ⟨c, hc, rfl⟩
   obtain ⟨hc1, hc2⟩ := List.mem_filter.1 hc
   have hok := (h3 c hc1).2
   exact ⟨c, hc1, by rw [← adjOpp_altK ⟨h0, h1⟩ hok]; simpa using hc2, orderL_sortK ⟨h0, h1⟩ hok⟩
  ·rintro ⟨c, hc, h4, rfl⟩
   have hok := (h3 c hc).2
   exact ⟨c, List.mem_filter.2 ⟨hc, by rw [adjOpp_altK ⟨h0, h1⟩ hok, h4]; rfl⟩, orderL_sortK ⟨h0, h1⟩ hok⟩
 have hlits : ∀ c ∈ openL L, Lits c := fun z hzz => by
  obtain ⟨c, _, _, rfl⟩ := (hopen z).1 hzz
  exact sortK_lits c (by omega)
 obtain ⟨g1, g2⟩ := distL_strict hlits
 obtain ⟨g3, g4⟩ := rNormK_strict N L (by omega) L.length (Nat.le_refl _)
 unfold normL
 refine strict_unique clLt_asymm g1 g3 fun z => ?_
 rw [g2, hopen, g4, List.take_length]
theorem normA_rNorm (N : Int) (L : List (List Int)) : normA N L = rNormA N L := by
 unfold normA rNormA
 split
 ·rename_i h; rw [normL_rNorm h]
 ·rfl
end Go.Proofs.YtllkogdgmmcfgaaGreatDoor
