/- theory.distinct over slices of rows that are objects; no condition. -/
import Derived.Test.YtafikekndefjcaaDoorOb3
import Derived.Test.YtafikekndefjcaaDoorWa
import Derived.Test.YtafikekndefjcaaDoorAm21
namespace Go.Proofs.YtafikekndefjcaaDoor
set_option linter.unusedVariables false
set_option linter.unusedSimpArgs false
set_option linter.unusedSectionVars false
open Go.RowKit
attribute [local simp] List.getD_cons_zero List.getD_cons_succ List.getD_nil undef gvars runL runE effA stepA dstOk wantA core lk st dl AS.ev AS.evs AS.put AS.upd updO updI nxt cPick cAlloc cBox cBuild cBuildS cLoad cStore cNil plainOf cBin cNilS isNilS nilA cUn cConvX cConvB cConv bytesOf rowB cMake cSlice slA idxA cFA cF cIA cIX cIS cI cExt cLen cApp cMM cFun cCall lenA lenM isNilM nilM cNilM cMakeM hintB cMapK cLook foundR lookR cUpd putM cDel delM findA isKeyB Instr.sameNow AS.entry AS.bound AS.callee sc1 sc2 ixOk ldA AV.flat AV.cell AV.cells Value.oneCell' fillA spl chunk zeros AS.parts AS.rows AS.shut AS.shut1 AS.shut2 AS.shutL AS.shutM AV.ids idsL idsLL eqAll bndA AV.scalar AV.scalar1 AV.isV Ef.app Ef.pk ptOf pntO wrO wr
attribute [-simp] List.getD_eq_getElem?_getD
set_option maxRecDepth 100000
attribute [local simp] AV.ren renL obI shO_cons lk_st lk_dl
def distIx (M : List (List Int)) (k : Nat) : List Nat := (List.range k).filter fun i => decide (i = 0 ∨ M.getD (i - 1) [] ≠ M.getD i [])
theorem distIx_succ (M : List (List Int)) (k : Nat) : distIx M (k + 1) = distIx M k ++ if k = 0 ∨ M.getD (k - 1) [] ≠ M.getD k [] then [k] else [] := by
  unfold distIx
  rw [List.range_succ, List.filter_append]
  congr 1
  by_cases h : k = 0 ∨ M.getD (k - 1) [] ≠ M.getD k []
  · rw [List.filter_cons, if_pos (decide_eq_true h), if_pos h]; rfl
  · rw [List.filter_cons, if_neg (by simpa using h), if_neg h]; rfl
theorem distIx_len (M : List (List Int)) (k : Nat) : (distIx M k).length ≤ k := by
  unfold distIx
  exact Nat.le_trans (List.length_filter_le _ _) (by simp)
theorem distIx_lt {M : List (List Int)} {k i : Nat} (h : i ∈ distIx M k) : i < k := List.mem_range.1 (List.mem_filter.1 h).1
theorem distK_ix (M : List (List Int)) (k : Nat) : distK M k = (distIx M k).map fun i => M.getD i [] := by
  induction k with
  | zero => rfl
  | succ k ih =>
    rw [distK_succ, distIx_succ, List.map_append, ih]
    congr 1
    split <;> simp
def refsX (b : Nat) (M : List (List Int)) (ix : List Nat) : List (List AV) := ix.map fun i => [.ref (b + i) 0 (M.getD i []).length]
theorem refsX_snoc (b : Nat) (M : List (List Int)) (ix : List Nat) (k : Nat) : refsX b M (ix ++ [k]) = refsX b M ix ++ [[.ref (b + k) 0 (M.getD k []).length]] := by simp [refsX]
theorem refsX_len (b : Nat) (M : List (List Int)) (ix : List Nat) : (refsX b M ix).length = ix.length := by simp [refsX]
theorem ids_refsX {b : Nat} {M : List (List Int)} {ix : List Nat} {q : Nat} (h : q ∈ idsLL (refsX b M ix)) : ∃ i ∈ ix, q = b + i := by
  induction ix with
  | nil => simp [refsX, idsLL] at h
  | cons i ix ih =>
    simp only [refsX, List.map_cons, idsLL, idsL, AV.ids, List.append_nil, List.mem_append, List.mem_singleton] at h
    rcases h with h | h
    · exact ⟨i, by simp, h⟩
    · obtain ⟨j, h1, h2⟩ := ih h
      exact ⟨j, by simp [h1], h2⟩
theorem ren_refsX (ρ : Nat → Nat) (b : Nat) (M : List (List Int)) (ix : List Nat) (h : ∀ i ∈ ix, ρ (b + i) = b + i) : renLL ρ (refsX b M ix) = refsX b M ix := by
  induction ix with
  | nil => simp [refsX, renLL]
  | cons i ix ih =>
    have h1 := ih fun j hj => h j (List.mem_cons_of_mem _ hj)
    simp only [refsX, List.map_cons, renLL, renL, AV.ren] at h1 ⊢
    rw [h1, h i List.mem_cons_self]
def outO (M : List (List Int)) : AObj := ⟨28, 1, refsX 1000 M (distIx M M.length)⟩
theorem distinct_eff {B : Base} {ops : Array Oper} {σ : AS} {o : Oper} {x : Operand} {ts : Array TypeId} (M : List (List Int)) (h : okRows M = true)
    (ho : o.op = .call { callee := .value (.func 51), args := #[x, .func 52], argTypes := ts }) (hd : dstOk σ o = true) (hwt : wantA σ ops o = some true) (hx : σ.ev x = some (.ref 2 0 M.length))
    (h2 : lk σ.objs 2 = some ⟨28, 1, refsI 1000 M⟩) (hfam : ∀ j, j < M.length → lk σ.objs (1000 + j) = some (obI (M.getD j []))) (hids : ∀ k ∈ [2] ++ List.range' 1000 M.length, k ∈ σ.ids) (hid : 5 ∉ σ.ids) :
    Ok1 (EffOk Tryd.prog B ops σ o ⟨o.dst, .ref 5 0 (distIx M M.length).length, [(5, some (outO M))], looksO ops o, 5 :: ([2] ++ List.range' 1000 M.length), none⟩) := by
  have hm := okRows_len h
  have hmem : ∀ k, k ∈ [2] ++ List.range' 1000 M.length ↔ k = 2 ∨ (1000 ≤ k ∧ k < 1000 + M.length) := fun k => by
    rw [List.mem_append, List.mem_singleton, List.mem_range'_1]
  have hlk : ∀ k, lk ([(2, (⟨28, 1, refsI 1000 M⟩ : AObj))] ++ fam 1000 M) k = if k ∈ [2] ++ List.range' 1000 M.length then lk σ.objs k else none := fun k => by
    rw [lk_append]
    by_cases e : k = 2
    · subst e; rw [if_pos (by simp), h2]; simp [lk]
    · by_cases hk : 1000 ≤ k ∧ k < 1000 + M.length
      · rw [if_pos ((hmem k).2 (.inr hk))]
        obtain ⟨j, rfl⟩ : ∃ j, k = 1000 + j := ⟨k - 1000, by omega⟩
        rw [hfam j (by omega), lk_fam_add (by omega)]
        simp [lk, Ne.symm e]
      · rw [if_neg (fun hh => by rcases (hmem k).1 hh with hh | hh; exact e hh; exact hk hh), lk_famI, if_neg hk]
        simp [lk, Ne.symm e]
  have hev : σ.evs [x, .func 52] = some [.ref 2 0 M.length, .v (.func (.func 52) #[] #[])] := by
    show (match σ.ev x, σ.evs [.func 52] with | some a, some l => some (a :: l) | _, _ => none) = _
    rw [hx]; rfl
  refine eff_call TT_ok ho hd hwt hev (f := 51) (L := [.ref 2 0 M.length, .v (.func (.func 52) #[] #[])]) rfl (by kernel_rfl) Tryd.func51 (c := _) rfl (by simp [Tryd.ntmps51])
    ([(2, ⟨28, 1, refsI 1000 M⟩)] ++ fam 1000 M) ([2] ++ List.range' 1000 M.length) hlk (fun k hk => (hmem k).2 (.inl (by simpa [idsL, AV.ids] using hk))) (fun k hk ob hob q hq => ?_) hids hid (fun B' hI' hro' => ?_)
  · rcases (hmem k).1 hk with rfl | hk
    · rw [h2] at hob; cases hob
      exact (hmem q).2 (.inr (ids_refsI 1000 M hq))
    · obtain ⟨j, rfl⟩ : ∃ j, k = 1000 + j := ⟨k - 1000, by omega⟩
      rw [hfam j (by omega)] at hob; cases hob
      rw [show idsLL (obI (M.getD j [])).xs = [] from ids_ints _] at hq; cases hq
  clear hlk hids hid hfam h2 hx hev hd hwt
  rw [Tryd.ntmps51, Tryd.results51]
  simp only [enumA]
  refine amStr (h := ?_)
  refine amReg PT2_ok (h := ?_)
  refine amStr (h := ?_)
  refine amReg PT2_ok (h := ?_)
  refine amStr (h := ?_)
  refine amReg PT2_ok (h := ?_)
  refine amStr (h := ?_)
  refine s_nil 5 5 28 1 (by simp [lk]) (by simp) ?_
  simp only [st]
  refine s_loopI hI' (J := fun i : {k : Nat // k ≤ M.length} => ⟨37, [(0, .ref 2 0 M.length), (1, .v (.func (.func 52) #[] #[])), (5, .ref 5 0 (distIx M i.1).length), (8, .v (.int .i64 (M.length : Int))), (9, .v (.int .i64 (i.1 : Int)))], [(5, ⟨28, 1, refsX 1000 M (distIx M i.1)⟩), (2, ⟨28, 1, refsI 1000 M⟩)] ++ fam 1000 M, [5, 2] ++ List.range' 1000 M.length⟩) (μ := fun i => M.length - i.1) ⟨0, Nat.zero_le _⟩ ?_ (fun ⟨k, hk⟩ => ?_)
  · have hz : distIx M 0 = [] := rfl
    have hz2 : refsX 1000 M [] = [] := rfl
    have hz3 := ren_refsI (fun k => k) 1000 1000 M M rfl (fun _ _ => rfl) (fun _ _ => rfl)
    (refine weakI_fam (fun k => k) ?_ rfl ?_ ?_ ?_ ?_ ?_ ?_ <;> ((try simp only [List.mem_cons, List.not_mem_nil, or_false, forall_eq_or_imp, forall_eq]); (try simp (disch := omega) [lk, AV.ids, idsL, idsLL, AV.ren, renL, renLL, i64w, *])))
    · intro k h1 h2; exact .inr ⟨h1, h2⟩
    · exact fun q hq => .inr (ids_refsI 1000 M hq)
    · intro j hj
      rw [if_neg (by omega), if_neg (by omega), lk_fam_add hj]; rfl
    · exact ⟨fun j _ => by omega, fun j _ => by omega⟩
  refine amStr (h := ?_)
  refine amReg PT2_ok (h := ?_)
  refine amStr (h := ?_)
  (focus ((with_reducible refine sp_cond (b := ?_) ?_ (fun hc => ?_) (fun hc => ?_)); rotate_left; (focus (first | rfl | (simp [lk, AS.ev]; rfl))); all_goals (try simp at hc)))
  · have hd := distIx_len M k
    have hcap : ((distIx M k).length + 1) * 24 ≤ 140737488355328 := by omega
    have hs := distIx_succ M k
    have hrl := refsX_len 1000 M (distIx M k)
    have hril := refsI_len 1000 M
    have hrg := refsI_get (b := 1000) hc
    have grow : ∀ (σ : AS), σ.n = 37 → (k = 0 ∨ M.getD (k - 1) [] ≠ M.getD k []) → lk σ.slots 0 = some (.ref 2 0 M.length) → lk σ.slots 1 = some (.v (.func (.func 52) #[] #[])) → lk σ.slots 5 = some (.ref 7 0 ((distIx M k).length + 1)) → lk σ.slots 8 = some (.v (.int .i64 (M.length : Int))) → lk σ.slots 9 = some (.v (.int .i64 ((k : Int) + 1))) →
        lk σ.objs 7 = some ⟨28, 1, refsX 1000 M (distIx M k) ++ [[.ref (1000 + k) 0 (M.getD k []).length]]⟩ → lk σ.objs 2 = some ⟨28, 1, refsI 1000 M⟩ → (∀ j, j < M.length → lk σ.objs (1000 + j) = some (obI (M.getD j []))) →
        WeakI ([2] ++ List.range' 1000 M.length) σ ⟨37, [(0, .ref 2 0 M.length), (1, .v (.func (.func 52) #[] #[])), (5, .ref 5 0 (distIx M (k + 1)).length), (8, .v (.int .i64 (M.length : Int))), (9, .v (.int .i64 ((k + 1 : Nat) : Int)))], [(5, ⟨28, 1, refsX 1000 M (distIx M (k + 1))⟩), (2, ⟨28, 1, refsI 1000 M⟩)] ++ fam 1000 M, [5, 2] ++ List.range' 1000 M.length⟩ := by
      intro σ hn hcc s0 s1 s5 s8 s9 o7 o2 of
      rw [if_pos hcc] at hs
      refine weakI_fam (fun q => if q = 5 then 7 else q) (fun q hq => ?_) hn.symm (fun p hp => ?_) (fun p hp => ?_) (fun j hj => ?_) (fun p hp q hq e => ?_) (fun j hj i hi e => ?_) (fun p hp j hj => ?_)
      · rcases (hmem q).1 hq with rfl | h
        · exact ⟨rfl, .inl (by simp)⟩
        · exact ⟨if_neg (by omega), .inr h⟩
      · simp only [List.mem_cons, List.not_mem_nil, or_false] at hp
        rcases hp with rfl | rfl | rfl | rfl | rfl
        · exact ⟨s0, by simp [AV.ids]⟩
        · exact ⟨s1, by simp [AV.ids]⟩
        · rw [hs]; simp only [List.length_append, List.length_singleton]
          exact ⟨s5, by simp [AV.ids]⟩
        · exact ⟨s8, by simp [AV.ids]⟩
        · exact ⟨s9, by simp [AV.ids]⟩
      · simp only [List.mem_cons, List.not_mem_nil, or_false] at hp
        rcases hp with rfl | rfl
        · refine ⟨by omega, ?_, by simp, fun q hq => ?_⟩
          · rw [if_pos rfl, o7]; dsimp only; rw [ren_refsX (fun q => if q = 5 then 7 else q) 1000 M _ (fun i _ => if_neg (by omega)), hs, refsX_snoc]
          · obtain ⟨i, h1, rfl⟩ := ids_refsX hq
            have := distIx_lt h1
            exact .inr ⟨by omega, by omega⟩
        · refine ⟨by omega, ?_, by simp, fun q hq => .inr (ids_refsI 1000 M hq)⟩
          rw [if_neg (by omega), o2]; dsimp only; rw [ren_refsI (fun q => if q = 5 then 7 else q) 1000 1000 M M rfl (fun j _ => if_neg (by omega)) (fun _ _ => rfl)]
      · rw [if_neg (by omega), of j hj]
      · simp only [List.mem_cons, List.not_mem_nil, or_false] at hp hq
        rcases hp with rfl | rfl <;> rcases hq with rfl | rfl <;> simp at e ⊢
      · rw [if_neg (by omega), if_neg (by omega)] at e; omega
      · rw [if_neg (show ¬ 1000 + j = 5 by omega)]
        simp only [List.mem_cons, List.not_mem_nil, or_false] at hp
        rcases hp with rfl | rfl <;> simp <;> omega
    by_cases h0 : k = 0
    · subst h0
      refine amStr (h := ?_)
      refine amReg PT2_ok (h := ?_)
      refine amStr (h := ?_)
      refine amDrw PT2_ok (h := ?_)
      refine amStr (h := ?_)
      refine s_regionL ?_
      ((iterate 5 (((with_reducible refine spl_step TT_ok PT2_ok (id := 0) (σ' := ?_) ?_ ?_); rotate_left; (focus (simp [*]; rfl))))))
      (((with_reducible refine spl_step TT_ok PT2_ok (id := 6) (σ' := ?_) ?_ ?_); rotate_left; (focus (simp [*]; rfl))))
      (((with_reducible refine spl_step TT_ok PT2_ok (id := 7) (σ' := ?_) ?_ ?_); rotate_left; (focus (simp [*]; rfl))))
      ((iterate 1 (((with_reducible refine spl_step TT_ok PT2_ok (id := 0) (σ' := ?_) ?_ ?_); rotate_left; (focus (simp [*]; rfl))))))
      refine spl_nil ?_
      refine amStr (h := ?_)
      refine amReg PT2_ok (h := ?_)
      refine ki_lp (⟨1, by omega⟩ : {k : Nat // k ≤ M.length}) (by dsimp only; omega) ?_
      refine grow _ rfl (.inl rfl) rfl rfl ?_ rfl ?_ ?_ rfl ?_
      · simp [lk]
      · simp [lk]; rfl
      · simp [lk, lk_st]
      · intro j hj
        simp only [lk, lk_st, lk_dl]
        rw [if_neg (by omega), if_neg (by omega), if_neg (by omega), if_neg (by omega), lk_fam_add hj]
    · obtain ⟨p, hp⟩ : ∃ p, p + 1 = k := ⟨k - 1, by omega⟩
      have hp1 : p < M.length := by omega
      have h1 := okRows_at h p
      have h2 := okRows_at h k
      have w1 : IntKind.i64.wrap ((k : Int) - 1) = (p : Int) := by rw [i64w] <;> omega
      have h0' : ((k : Int) == 0) = false := by simp; omega
      have hrp := refsI_get (b := 1000) hp1
      have hf1 : lk (fam 1000 M) (1000 + p) = some ⟨3, 1, (M.getD p []).map fun x => [.v (.int .i64 x)]⟩ := lk_fam_add hp1
      have hf2 : lk (fam 1000 M) (1000 + k) = some ⟨3, 1, (M.getD k []).map fun x => [.v (.int .i64 x)]⟩ := lk_fam_add hc
      have hn1 : ¬ 5 = 1000 + p := by omega
      have hn2 : ¬ 2 = 1000 + p := by omega
      have hn3 : ¬ 5 = 1000 + k := by omega
      have hn4 : ¬ 2 = 1000 + k := by omega
      refine amStr (h := ?_)
      refine amReg PT2_ok (h := ?_)
      refine amStr (h := ?_)
      refine amDrw PT2_ok (h := ?_)
      refine amStr (h := ?_)
      (focus ((with_reducible refine sp_cond (b := ?_) ?_ (fun hc => ?_) (fun hc => ?_)); rotate_left; (focus (first | rfl | (simp [lk, AS.ev]; rfl))); all_goals (try simp at hc)))
      · refine amStr (h := ?_)
        refine s_regionL ?_
        ((iterate 5 (((with_reducible refine spl_step TT_ok PT2_ok (id := 0) (σ' := ?_) ?_ ?_); rotate_left; (focus (simp [*]; rfl))))))
        (((with_reducible refine spl_step TT_ok PT2_ok (id := 6) (σ' := ?_) ?_ ?_); rotate_left; (focus (simp [*]; rfl))))
        (((with_reducible refine spl_step TT_ok PT2_ok (id := 7) (σ' := ?_) ?_ ?_); rotate_left; (focus (simp [*]; rfl))))
        ((iterate 1 (((with_reducible refine spl_step TT_ok PT2_ok (id := 0) (σ' := ?_) ?_ ?_); rotate_left; (focus (simp [*]; rfl))))))
        refine spl_nil ?_
        refine amStr (h := ?_)
        refine amReg PT2_ok (h := ?_)
        refine ki_lp (⟨k + 1, by omega⟩ : {k : Nat // k ≤ M.length}) (by dsimp only; omega) ?_
        refine grow _ rfl (.inr (by rw [show k - 1 = p by omega]; exact hc)) rfl rfl ?_ rfl ?_ ?_ rfl ?_
        · simp [lk]
        · simp (disch := omega) [lk, i64w]
        · simp [lk, lk_st]
        · intro j hj
          simp only [lk, lk_st, lk_dl]
          rw [if_neg (by omega), if_neg (by omega), if_neg (by omega), if_neg (by omega), lk_fam_add hj]
      · rw [if_neg (by simp only [ne_eq, not_or, Decidable.not_not]; rw [show k - 1 = p by omega]; exact ⟨h0, hc⟩), List.append_nil] at hs
        have hz3 := ren_refsI (fun k => k) 1000 1000 M M rfl (fun _ _ => rfl) (fun _ _ => rfl)
        have hz4 := ren_refsX (fun k => k) 1000 M (distIx M k) (fun _ _ => rfl)
        refine amStr (h := ?_)
        refine amReg PT2_ok (h := ?_)
        refine ki_lp (⟨k + 1, by omega⟩ : {k : Nat // k ≤ M.length}) (by dsimp only; omega) ?_
        (refine weakI_fam (fun k => k) ?_ rfl ?_ ?_ ?_ ?_ ?_ ?_ <;> ((try simp only [List.mem_cons, List.not_mem_nil, or_false, forall_eq_or_imp, forall_eq]); (try simp (disch := omega) [lk, AV.ids, idsL, idsLL, AV.ren, renL, renLL, i64w, *])))
        · intro q h1 h2; exact .inr ⟨h1, h2⟩
        · refine ⟨fun q hq => ?_, fun q hq => .inr (ids_refsI 1000 M hq)⟩
          obtain ⟨i, h1, rfl⟩ := ids_refsX hq
          have := distIx_lt h1
          exact .inr ⟨by omega, by omega⟩
        · intro j hj
          rw [if_neg (by omega), if_neg (by omega), lk_fam_add hj]; rfl
        · exact ⟨fun j _ => by omega, fun j _ => by omega⟩
  · obtain rfl : k = M.length := by omega
    refine amStr (h := ?_)
    refine amReg PT2_ok (h := ?_)
    refine amStr (h := ?_)
    refine ⟨.inr rfl, .ref 5 0 (distIx M M.length).length, by simp [retA, retL, ret1, lk], rfl, fun k => ?_, fun k => List.mem_cons⟩
    by_cases e : k = 5
    · subst e; simp [lk, outO]
    · simp only [lk]
      rw [if_neg (Ne.symm e), if_neg e]; rfl
end Go.Proofs.YtafikekndefjcaaDoor
