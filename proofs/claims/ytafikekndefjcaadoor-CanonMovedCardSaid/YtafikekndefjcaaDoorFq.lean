/- Contract of censuslaw17.few, by the abstract machine; no condition. -/
import Derived.Test.YtafikekndefjcaaDoorLt
import Derived.Test.YtafikekndefjcaaDoorWa
import Derived.Test.YtafikekndefjcaaDoorNil
import Derived.Test.YtafikekndefjcaaDoorPl2
namespace Go.Proofs.YtafikekndefjcaaDoor
set_option linter.unusedVariables false
set_option linter.unusedSimpArgs false
set_option linter.unusedSectionVars false
open Go.RowKit
attribute [local simp] List.getD_cons_zero List.getD_cons_succ List.getD_nil undef gvars runL runE effA stepA dstOk wantA core lk st dl AS.ev AS.evs AS.put AS.upd updO updI nxt cPick cAlloc cBox cBuild cBuildS cLoad cStore cNil plainOf cBin cNilS isNilS nilA cUn cConvX cConvB cConv bytesOf rowB cMake cSlice slA idxA cFA cF cIA cIX cIS cI cExt cLen cApp cMM cFun cCall lenA lenM isNilM nilM cNilM cMakeM hintB cMapK cLook foundR lookR cUpd putM cDel delM findA isKeyB Instr.sameNow AS.entry AS.bound AS.callee sc1 sc2 ixOk ldA AV.flat AV.cell AV.cells Value.oneCell' fillA spl chunk zeros AS.parts AS.rows AS.shut AS.shut1 AS.shut2 AS.shutL AS.shutM AV.ids idsL idsLL eqAll bndA AV.scalar AV.scalar1 AV.isV Ef.app Ef.pk ptOf pntO wrO wr
attribute [-simp] List.getD_eq_getElem?_getD
set_option maxRecDepth 100000

def fewV (n l : Int) : Int := if l < 0 then -(1 + (max l (-(l + 1))) % n) else 1 + (max l (-(l + 1))) % n
def fewStep (n : Int) (d : List Int) (l : Int) : List Int := if 0 < n ∧ l ≠ 0 ∧ d.length < 100 then d ++ [fewV n l] else d
def fewK (n : Int) (c : List Int) (j : Nat) : List Int := (c.take j).foldl (fewStep n) []
def fewC (n : Int) (c : List Int) : List Int := fewK n c c.length
def fewT (n : Int) (L : List (List Int)) : List (List Int) := L.map (fewC n)
theorem fewK_succ {n : Int} {c : List Int} {j : Nat} (hj : j < c.length) : fewK n c (j + 1) = fewStep n (fewK n c j) (c.getD j 0) := by
  have : c.getD j 0 = c[j] := by simp [List.getD, hj]
  unfold fewK
  rw [List.take_succ_eq_append_getElem hj, List.foldl_append, this]
  rfl
theorem fewStep_len {n : Int} {d : List Int} {l : Int} (h : d.length ≤ 100) : (fewStep n d l).length ≤ 100 := by
  unfold fewStep
  split
  · rename_i h1; simp; omega
  · exact h
theorem fewK_len (n : Int) (c : List Int) : ∀ j, j ≤ c.length → (fewK n c j).length ≤ 100
  | 0, _ => by simp [fewK]
  | j + 1, h => by rw [fewK_succ (by omega)]; exact fewStep_len (fewK_len n c j (by omega))
theorem few_max {l : Int} (h1 : -9223372036854775808 ≤ l) (h2 : l ≤ 9223372036854775807) : IntKind.i64.wrap (-(IntKind.i64.wrap (l + 1))) = -(l + 1) := by
  rw [IntKind.wrap_i64, IntKind.wrap_i64]; omega
theorem mapK_succ {L : List (List Int)} {f : List Int → List Int} {k : Nat} (hk : k < L.length) : (L.take (k + 1)).map f = (L.take k).map f ++ [f (L.getD k [])] := by
  have : L.getD k [] = L[k] := by simp [List.getD, hk]
  rw [List.take_succ_eq_append_getElem hk, List.map_append, this]; rfl
theorem few_p (N n : Int) (L : List (List Int)) (hN : okI N = true) (h : okRows L = true) (hL : L.length ≤ 60) (h0 : 0 ≤ n) (h1 : n ≤ 20) : FnPure Tryd.prog 22 [aTh N L, .v (.int .i64 n)] (aTh n (fewT n L)) := by
  have hm := okRows_len h
  have hnu : IntKind.u64.wrap n = n := u64w (by omega) (by omega)
  unfold aTh
  refine fn_sp TT_ok Tryd.func22 (c := _) rfl (by simp [Tryd.ntmps22]) (fun B hI0 hro => ?_)
  rw [Tryd.ntmps22]
  simp only [enumA]
  refine amGo PT16_ok (h := ?_)
  refine s_cnil 4 0 1 5 28 1 rfl rfl (by simp) ?_ (by decide)
  (refine s_eq (τ := ?_) ?_ ?_; rotate_left; (focus ((try simp only [AS.frz, List.map_cons, List.map_nil]); (try simp [frzV, frzO, frzC, List.filter]); rfl)))
  refine s_loop (J := fun i : {k : Nat // k ≤ L.length} => ⟨67, [(1, .v (.int .i64 n)), (4, .ptr 1 0 0), (5, .ptr 4 0 0), (15, aRows L), (16, .v (.int .i64 (L.length : Int))), (17, .v (.int .i64 (i.1 : Int)))], [(5, ⟨28, 1, ((L.take i.1).map (fewC n)).map fun xs => [aInts xs]⟩), (1, ⟨24, 2, [[.v (.int .i64 0), .v (.slice none 0 0)]]⟩), (4, ⟨24, 2, [[.v (.int .i64 n), .ref 5 0 ((L.take i.1).map (fewC n)).length]]⟩)], [5, 4, 1, 0]⟩) (μ := fun i => L.length - i.1) ⟨0, Nat.zero_le _⟩ ?_ (fun ⟨k, hk⟩ => ?_)
  · (refine weak_id rfl ?_ ?_ <;> ((try simp only [List.mem_cons, List.not_mem_nil, or_false, forall_eq_or_imp, forall_eq]); (try simp (disch := omega) [i64w, *])))
  have hlen : ((L.take k).map (fewC n)).length ≤ 60 := by simp; omega
  have hcap : (((L.take k).map (fewC n)).length + 1) * 24 ≤ 140737488355328 := by omega
  generalize hP : (L.take k).map (fewC n) = P at hlen hcap ⊢
  refine amGo PT16_ok (h := ?_)
  (focus ((with_reducible refine sp_cond (b := ?_) ?_ (fun hc => ?_) (fun hc => ?_)); rotate_left; (focus (first | rfl | (simp [lk, AS.ev]; rfl))); all_goals (try simp at hc)))
  · have hkk := hc
    clear hc
    have hci := okRows_at h k
    have hcl := okInts_len hci
    have hks := mapK_succ (f := fewC n) hkk
    rw [hP] at hks
    refine amGo PT16_ok (h := ?_)
    refine s_loop (J := fun i : {j : Nat // j ≤ (L.getD k []).length} => ⟨67, [(1, .v (.int .i64 n)), (4, .ptr 1 0 0), (5, .ptr 4 0 0), (15, aRows L), (16, .v (.int .i64 (L.length : Int))), (17, .v (.int .i64 (k : Int))), (8, .ref 6 0 (fewK n (L.getD k []) i.1).length), (22, aInts (L.getD k [])), (23, .v (.int .i64 ((L.getD k []).length : Int))), (24, .v (.int .i64 (i.1 : Int)))], [(6, ⟨3, 1, (fewK n (L.getD k []) i.1).map fun x => [.v (.int .i64 x)]⟩), (5, ⟨28, 1, P.map fun xs => [aInts xs]⟩), (1, ⟨24, 2, [[.v (.int .i64 0), .v (.slice none 0 0)]]⟩), (4, ⟨24, 2, [[.v (.int .i64 n), .ref 5 0 P.length]]⟩)], [6, 5, 4, 1, 0]⟩) (μ := fun i => (L.getD k []).length - i.1) ⟨0, Nat.zero_le _⟩ ?_ (fun ⟨j, hj⟩ => ?_)
    · have hk1 : fewK n (L.getD k []) 0 = [] := rfl
      (refine weak_id rfl ?_ ?_ <;> ((try simp only [List.mem_cons, List.not_mem_nil, or_false, forall_eq_or_imp, forall_eq]); (try simp (disch := omega) [i64w, *])))
    refine amGo PT16_ok (h := ?_)
    (focus ((with_reducible refine sp_cond (b := ?_) ?_ (fun hc => ?_) (fun hc => ?_)); rotate_left; (focus (first | rfl | (simp [lk, AS.ev]; rfl))); all_goals (try simp at hc)))
    · have hjj := hc
      clear hc
      have hfs := fewK_succ (n := n) hjj
      have hfl := fewK_len n (L.getD k []) j (by omega)
      have hcap2 : ((fewK n (L.getD k []) j).length + 1) * 8 ≤ 140737488355328 := by omega
      have hx1 := okInts_at hci j
      generalize hx : (L.getD k []).getD j 0 = x at hfs hx1
      have hmx := few_max hx1.1 hx1.2
      generalize hF : fewK n (L.getD k []) j = F at hfs hfl hcap2
      by_cases hn : 0 < n
      · by_cases hx0 : x = 0
        · have hst : fewStep n F x = F := by unfold fewStep; rw [if_neg (by omega)]
          rw [hst] at hfs
          have hxd : (x != 0) = false := by simp [hx0]
          refine amGo PT16_ok (h := ?_)
          refine k_lp (⟨j + 1, by omega⟩ : {j : Nat // j ≤ (L.getD k []).length}) (by dsimp only; omega) ?_
          (refine weak_id rfl ?_ ?_ <;> ((try simp only [List.mem_cons, List.not_mem_nil, or_false, forall_eq_or_imp, forall_eq]); (try simp (disch := omega) [i64w, *])))
        · have hxd : (x != 0) = true := by simp [hx0]
          have hmp : 0 ≤ max x (-(x + 1)) := by omega
          have hmp2 : max x (-(x + 1)) ≤ 9223372036854775807 := by have := hx1.1; have := hx1.2; omega
          have hmu : IntKind.u64.wrap (max x (-(x + 1))) = max x (-(x + 1)) := u64w (by omega) (by omega)
          have hfv : fewV n x = if x < 0 then -(1 + (max x (-(x + 1))) % n) else 1 + (max x (-(x + 1))) % n := rfl
          refine amGo PT16_ok (h := ?_)
          (focus ((with_reducible refine sp_cond (b := ?_) ?_ (fun hc => ?_) (fun hc => ?_)); rotate_left; (focus (first | rfl | (simp [lk, AS.ev]; rfl))); all_goals (try simp at hc)))
          · have hf : F.length < 100 := by omega
            have hst : fewStep n F x = F ++ [fewV n x] := by unfold fewStep; rw [if_pos ⟨hn, hx0, hf⟩]
            rw [hst] at hfs
            have hy0 := Int.emod_nonneg (max x (-(x + 1))) (by omega : n ≠ 0)
            have hy1 := Int.emod_lt_of_pos (max x (-(x + 1))) hn
            have hty : (max x (-(x + 1))).tmod n = max x (-(x + 1)) % n := Int.tmod_eq_emod_of_nonneg hmp
            have hw1 : IntKind.u64.wrap (max x (-(x + 1)) % n) = max x (-(x + 1)) % n := u64w (by omega) (by omega)
            have hw2 : IntKind.i64.wrap (max x (-(x + 1)) % n) = max x (-(x + 1)) % n := i64w (by omega) (by omega)
            have hw3 : IntKind.i64.wrap (1 + max x (-(x + 1)) % n) = 1 + max x (-(x + 1)) % n := i64w (by omega) (by omega)
            have hw4 : IntKind.i64.wrap (-(1 + max x (-(x + 1)) % n)) = -(1 + max x (-(x + 1)) % n) := i64w (by omega) (by omega)
            have hn0 : n ≠ 0 := by omega
            have hmax : (if x < -(x + 1) then -(x + 1) else x) = max x (-(x + 1)) := by split <;> omega
            generalize max x (-(x + 1)) % n = r at hfv hy0 hy1 hty hw1 hw2 hw3 hw4
            refine amGo PT16_ok (h := ?_)
            (focus ((with_reducible refine sp_cond (b := ?_) ?_ (fun hc => ?_) (fun hc => ?_)); rotate_left; (focus (first | rfl | (simp [lk, AS.ev]; rfl))); all_goals (try simp at hc)))
            · rw [if_pos hc] at hfv
              refine amGo PT16_ok (h := ?_)
              refine k_lp (⟨j + 1, by omega⟩ : {j : Nat // j ≤ (L.getD k []).length}) (by dsimp only; omega) ?_
              (refine weak_of (fun k => if k = 6 then 10 else k) ⟨rfl, ?_, ?_, ?_⟩ <;> ((try simp only [List.mem_cons, List.not_mem_nil, or_false, forall_eq_or_imp, forall_eq]); (try simp (disch := omega) [lk, AV.ids, idsL, idsLL, AV.ren, renL, renLL, i64w, *])))
              all_goals rw [hmax, hmu, hty, hw2, hw3]
              all_goals first | exact hw4 | rfl
            · rw [if_neg (by omega)] at hfv
              refine amGo PT16_ok (h := ?_)
              refine k_lp (⟨j + 1, by omega⟩ : {j : Nat // j ≤ (L.getD k []).length}) (by dsimp only; omega) ?_
              (refine weak_of (fun k => if k = 6 then 10 else k) ⟨rfl, ?_, ?_, ?_⟩ <;> ((try simp only [List.mem_cons, List.not_mem_nil, or_false, forall_eq_or_imp, forall_eq]); (try simp (disch := omega) [lk, AV.ids, idsL, idsLL, AV.ren, renL, renLL, i64w, *])))
              all_goals rw [hmax, hmu, hty, hw2, hw3]
              all_goals first | exact hw4 | rfl
          · have hst : fewStep n F x = F := by unfold fewStep; rw [if_neg (by omega)]
            rw [hst] at hfs
            refine amGo PT16_ok (h := ?_)
            refine k_lp (⟨j + 1, by omega⟩ : {j : Nat // j ≤ (L.getD k []).length}) (by dsimp only; omega) ?_
            (refine weak_id rfl ?_ ?_ <;> ((try simp only [List.mem_cons, List.not_mem_nil, or_false, forall_eq_or_imp, forall_eq]); (try simp (disch := omega) [i64w, *])))
      · have hst : fewStep n F x = F := by unfold fewStep; rw [if_neg (by omega)]
        rw [hst] at hfs
        refine amGo PT16_ok (h := ?_)
        refine k_lp (⟨j + 1, by omega⟩ : {j : Nat // j ≤ (L.getD k []).length}) (by dsimp only; omega) ?_
        (refine weak_id rfl ?_ ?_ <;> ((try simp only [List.mem_cons, List.not_mem_nil, or_false, forall_eq_or_imp, forall_eq]); (try simp (disch := omega) [i64w, *])))
    · obtain rfl : j = (L.getD k []).length := by omega
      have hfull : fewK n (L.getD k []) (L.getD k []).length = fewC n (L.getD k []) := rfl
      refine s_frz (fun k => k == 6) ?_
      (refine s_eq (τ := ?_) ?_ ?_; rotate_left; (focus ((try simp only [AS.frz, List.map_cons, List.map_nil]); (try simp [frzV, frzO, frzC, List.filter]); rfl)))
      refine amGo PT16_ok (h := ?_)
      refine k_lp (⟨k + 1, by omega⟩ : {k : Nat // k ≤ L.length}) (by dsimp only; omega) ?_
      (refine weak_of (fun k => if k = 5 then 11 else k) ⟨rfl, ?_, ?_, ?_⟩ <;> ((try simp only [List.mem_cons, List.not_mem_nil, or_false, forall_eq_or_imp, forall_eq]); (try simp (disch := omega) [lk, AV.ids, idsL, idsLL, AV.ren, renL, renLL, i64w, *])))
  · obtain rfl : k = L.length := by omega
    have hfin : P = fewT n L := by rw [← hP]; unfold fewT; rw [List.take_length]
    refine amGo PT16_ok (h := ?_)
    ((refine post_ret (av := ?_) (by first | exact .inl rfl | exact .inr rfl) (show (Tryd.f22).results.toList = _ from by rw [Tryd.results22]) ?_ ?_); rotate_left; (focus (simp [retA, retL, ret1, lk, st, ldA, AV.cell]; rfl)); (try simp [*]))
def fewOk (n : Int) (L : List (List Int)) : Bool := decide (L.length ≤ 60) && (decide (0 ≤ n) && decide (n ≤ 20))
theorem fewOk_iff {n : Int} {L : List (List Int)} : fewOk n L = true ↔ L.length ≤ 60 ∧ 0 ≤ n ∧ n ≤ 20 := by simp [fewOk]
@[simp] def g_few : List AV → Option (AV × Bool)
  | [.agg [.v (.int .i64 N), a0], .v (.int .i64 n)] => (match toRows a0 with | some L => if (okI N && okRows L && okI n && fewOk n L) = true then some (aTh n (fewT n L), false) else none | none => none)
  | _ => none
theorem e_few : EntOk Tryd.prog 22 g_few := ent_pure (by kernel_rfl) fun args r fr h => by
  unfold g_few at h
  split at h
  · rename_i N a0 n
    split at h
    · rename_i L t0
      split at h
      · rename_i hc
        simp only [Bool.and_eq_true] at hc
        obtain ⟨⟨⟨m0, o0⟩, o1⟩, hk⟩ := hc
        cases h
        exact ⟨FnPure.cov (few_p N n L m0 o0 (fewOk_iff.1 hk).1 (fewOk_iff.1 hk).2.1 (fewOk_iff.1 hk).2.2) (.cons (cov_th _ (cov_rows t0)) (.cons (Cov.refl _) .nil)), rfl⟩
      · cases h
    · cases h
  · cases h

/-! ### few -/
theorem fewV_ok {n l : Int} (h0 : 0 < n) (h1 : n ≤ 128) : litOk (fewV n l) n = true := by
  have h2 := Int.emod_nonneg (max l (-(l + 1))) (by omega : n ≠ 0)
  have h3 := Int.emod_lt_of_pos (max l (-(l + 1))) h0
  unfold fewV
  split
  · exact litOk_of h1 (by omega)
  · exact litOk_of h1 (by omega)
theorem fewFold_ok {n : Int} (h1 : n ≤ 128) : ∀ (c d : List Int), (d.length ≤ 100 ∧ ∀ l ∈ d, litOk l n = true) → (c.foldl (fewStep n) d).length ≤ 100 ∧ ∀ l ∈ c.foldl (fewStep n) d, litOk l n = true
  | [], d, h => h
  | x :: c, d, h => by
    rw [List.foldl_cons]
    refine fewFold_ok h1 c _ ⟨fewStep_len h.1, ?_⟩
    unfold fewStep
    split
    · rename_i hh
      intro l hl
      rcases List.mem_append.1 hl with hl | hl
      · exact h.2 l hl
      · rw [List.mem_singleton.1 hl]; exact fewV_ok hh.1 h1
    · exact h.2
theorem fewC_ok {n : Int} (h1 : n ≤ 128) (c : List Int) : (fewC n c).length ≤ 100 ∧ ∀ l ∈ fewC n c, litOk l n = true := by
  unfold fewC fewK
  exact fewFold_ok h1 _ _ ⟨by simp, fun l hl => by cases hl⟩
theorem fewT_check {n : Int} {L : List (List Int)} (h0 : 0 ≤ n) (h1 : n ≤ 128) (h2 : L.length ≤ 4096) : checkT n (fewT n L) = 0 := by
  refine checkT_of h0 h1 (by unfold fewT; simpa using h2) fun z hz => ?_
  unfold fewT at hz
  obtain ⟨c, _, rfl⟩ := List.mem_map.1 hz
  have := fewC_ok h1 c
  exact ⟨by omega, this.2⟩
end Go.Proofs.YtafikekndefjcaaDoor
