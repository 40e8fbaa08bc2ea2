/- censuslaw16.given and the document's Same on equal lists of components; no condition. -/
import Derived.Test.YtekeidhndlnghaaPp16
import Derived.Test.YtekeidhndlnghaaWa
namespace Go.Proofs.Ytekeidhndlnghaa
set_option linter.unusedVariables false
set_option linter.unusedSimpArgs false
set_option linter.unusedSectionVars false
open Go.RowKit
attribute [local simp] List.getD_cons_zero List.getD_cons_succ List.getD_nil undef gvars runL runE effA stepA dstOk wantA core lk st dl AS.ev AS.evs AS.put AS.upd updO updI nxt cPick cAlloc cBox cBuild cBuildS cLoad cStore cNil plainOf cBin cNilS isNilS nilA cUn cConvX cConvB cConv bytesOf rowB cMake cSlice slA idxA cFA cF cIA cIX cIS cI cExt cLen cApp cMM cFun cCall lenA lenM isNilM nilM cNilM cMakeM hintB cMapK cLook foundR lookR cUpd putM cDel delM findA isKeyB Instr.sameNow AS.entry AS.bound AS.callee sc1 sc2 ixOk ldA AV.flat AV.cell AV.cells Value.oneCell' fillA spl chunk zeros AS.parts AS.rows AS.shut AS.shut1 AS.shut2 AS.shutL AS.shutM AV.ids idsL idsLL eqAll bndA AV.scalar AV.scalar1 AV.isV Ef.app Ef.pk ptOf pntO wrO wr
attribute [-simp] List.getD_eq_getElem?_getD
set_option maxRecDepth 100000
@[simp] def g_r4Same : List AV → Option (AV × Bool)
  | [a0, a1] => (match toInts a0 with | some xs => (match toInts a1 with | some ys => if (okInts xs && okInts ys) = true then some (.v (.bool (decide (xs = ys))), true) else none | none => none) | none => none)
  | _ => none
theorem e_r4Same : EntOk Try.prog 16 g_r4Same := ent_fresh (by kernel_rfl) fun args r fr h => by
  unfold g_r4Same at h
  split at h
  · rename_i a0 a1
    split at h
    · rename_i xs t0
      split at h
      · rename_i ys t1
        split at h
        · rename_i hc
          simp only [Bool.and_eq_true] at hc
          obtain ⟨o0, o1⟩ := hc
          cases h
          exact fresh_gives (fun G => .v _) fun S w vs hS hn hv => by
            obtain ⟨u0, u1, rfl, r0, r1⟩ := args2 hn hv
            have q0 := ints_of hS r0 t0 o0
            have q1 := ints_of hS r1 t1 o1
            exact (ref04Same_c q0 q1).mono fun e w2 h2 => by obtain ⟨he, q, hw⟩ := h2; exact ⟨he, hw ▸ ⟨rfl, rfl, rfl, Nat.le_refl _, fun _ _ => rfl⟩⟩
        · cases h
      · cases h
    · cases h
  · cases h

def l92 : List (FuncId × (List AV → Option (AV × Bool))) :=
  (16, g_r4Same) :: l1
theorem l92_ok : ∀ p ∈ l92, EntOk Try.prog p.1 p.2 := ent_cons e_r4Same (l1_ok)
def PT92 : PTab := tab l92
theorem PT92_ok : PTok Try.prog PT92 := tab_ok l92_ok
@[simp] theorem PT92_r4Same : PT92 16 = g_r4Same := rfl
def okParts (l : List PrtL) : Bool := l.all (fun p => okInts p.2) && decide (l.length ≤ 10000)
theorem okParts_len {l : List PrtL} (h : okParts l = true) : l.length ≤ 10000 := by simp only [okParts, Bool.and_eq_true, decide_eq_true_eq] at h; exact h.2
theorem okParts_at {l : List PrtL} (h : okParts l = true) (k : Nat) : okInts (l.getD k (0#128, [])).2 = true := by
  simp only [okParts, Bool.and_eq_true, List.all_eq_true] at h
  by_cases hk : k < l.length
  · have : l.getD k (0#128, []) = l[k] := by simp [List.getD, hk]
    rw [this]; exact h.1 _ (List.getElem_mem hk)
  · have : l.getD k (0#128, []) = (0#128, []) := by simp [List.getD, List.getElem?_eq_none (show l.length ≤ k by omega)]
    rw [this]; rfl
theorem parts_row {l : List PrtL} {k : Nat} (hk : k < l.length) : (l.map partRow).getD k [] = [.v (.int .u64 ((lo (l.getD k (0#128, [])).1).toNat : Int)), .v (.int .u64 ((hi (l.getD k (0#128, [])).1).toNat : Int)), aInts (l.getD k (0#128, [])).2] := by
  simp [List.getD, hk, partRow]
theorem parts_take {l : List PrtL} {k : Nat} (hk : k < l.length) : (l.take (k + 1)).map partRow = (l.take k).map partRow ++ [[.v (.int .u64 ((lo (l.getD k (0#128, [])).1).toNat : Int)), .v (.int .u64 ((hi (l.getD k (0#128, [])).1).toNat : Int)), aInts (l.getD k (0#128, [])).2]] := by
  rw [List.take_succ_eq_append_getElem hk, List.map_append]
  simp [List.getD, hk, partRow]
theorem idsLL_parts : ∀ l : List PrtL, idsLL (l.map partRow) = []
  | [] => rfl
  | p :: l => by simp [idsLL, idsL, partRow, AV.ids, idsLL_parts l]
theorem renLL_appendP2 (ρ : Nat → Nat) : ∀ A B : List (List AV), renLL ρ (A ++ B) = renLL ρ A ++ renLL ρ B
  | [], _ => rfl
  | a :: A, B => by simp [renLL, renLL_appendP2 ρ A B]
theorem frz_parts (σ : AS) (D : Nat → Bool) (M : List PrtL) : List.map ((fun r => List.map (frzC σ D) r) ∘ partRow) M = M.map partRow := List.map_congr_left fun q _ => by simp [partRow, frzC, AS.shut1]
set_option maxHeartbeats 4000000 in
theorem given_p (l : List PrtL) (hl : okParts l = true) : FnPure Try.prog 15 [aParts l] (aParts l) := by
  have hln := okParts_len hl
  have hid := idsLL_parts l
  unfold aParts
  refine fn_sp TT_ok Try.func15 (c := _) rfl (by simp [Try.ntmps15]) (fun B hI0 hro => ?_)
  rw [Try.ntmps15]
  simp only [enumA]
  refine amGo PT92_ok (h := ?_)
  refine s_nil 3 60 56 3 (by simp [lk]) (by simp) ?_
  simp only [st]
  refine s_loop (J := fun i : {k : Nat // k ≤ l.length} => ⟨28, [(3, .ref 60 0 i.1), (0, .sl 3 (l.map partRow)), (4, .v (.int .i64 (i.1 : Int)))], [(60, ⟨56, 3, (l.take i.1).map partRow⟩)], [60]⟩) (μ := fun i => l.length - i.1) ⟨0, Nat.zero_le _⟩ ?_ (fun ⟨k, hk⟩ => ?_)
  · (refine weak_id rfl ?_ ?_ <;> ((try simp only [List.mem_cons, List.not_mem_nil, or_false, forall_eq_or_imp, forall_eq]); (try simp (disch := omega) [i64w, *])))
  have hlm : (l.map partRow).length = l.length := by simp
  have hidt := idsLL_parts (l.take k)
  have hkl : (l.take k).length = k := by rw [List.length_take]; omega
  dsimp only
  obtain ⟨M, hM⟩ : ∃ M, l.take k = M := ⟨_, rfl⟩
  rw [hM] at hidt hkl
  rw [hM]
  have hM2 := Lib.hid hM
  clear hM
  refine amStr (h := ?_)
  refine amReg PT92_ok (h := ?_)
  refine amStr (h := ?_)
  (focus ((with_reducible refine sp_cond (b := ?_) ?_ (fun hc => ?_) (fun hc => ?_)); rotate_left; (focus (first | rfl | (simp [lk, AS.ev]; rfl))); all_goals (try simp at hc)))
  · have hkk := hc
    clear hc
    have hrow := parts_row hkk
    have htk := parts_take hkk
    have hci := okParts_at hl k
    obtain ⟨p, hp⟩ : ∃ p, l.getD k (0#128, []) = p := ⟨_, rfl⟩
    rw [hp] at hrow htk hci
    have hcl := okInts_len hci
    have c1 : (k + 1) * 40 ≤ 140737488355328 := by omega
    have c2 : p.2.length * 8 ≤ 140737488355328 := by omega
    have hwk : IntKind.i64.wrap ((k : Int) + 1) = (k : Int) + 1 := i64s k (by omega)
    obtain ⟨x, hx⟩ : ∃ x, lo p.1 = x := ⟨_, rfl⟩
    obtain ⟨y, hy⟩ : ∃ y, hi p.1 = y := ⟨_, rfl⟩
    obtain ⟨c, hcc⟩ : ∃ c, p.2 = c := ⟨_, rfl⟩
    rw [hx, hy, hcc] at hrow htk
    rw [hcc] at hci hcl c2
    clear hp hx hy hcc hci
    rw [hM2.out] at htk
    clear hM2
    refine amStr (h := ?_)
    refine amDrw PT92_ok (h := ?_)
    refine amStr (h := ?_)
    refine s_frz (fun q => q == 73) ?_
    (refine s_eq (τ := ?_) ?_ ?_; rotate_left; (focus ((try simp only [AS.frz, List.map_cons, List.map_nil]); (try simp [frzV, frzO, frzC, List.filter]); rfl)))
    refine amGo PT92_ok (h := ?_)
    refine k_lp (⟨k + 1, by omega⟩ : {k : Nat // k ≤ l.length}) (by dsimp only; omega) ?_
    dsimp only
    rw [htk]
    (refine weak_of (fun q => if q = 60 then 76 else q) ⟨rfl, ?_, ?_, ?_⟩ <;> ((try simp only [List.mem_cons, List.not_mem_nil, or_false, forall_eq_or_imp, forall_eq]); (try simp (disch := omega) [lk, AV.ids, idsL, idsLL, AV.ren, renL, renLL, i64w, *])))
    · exact (renLL_pure _ _ hid).symm
    all_goals (try rw [frz_parts])
    all_goals (try rfl)
    all_goals (try (rw [renLL_appendP2, renLL_pure _ _ hidt]; simp [renLL, renL, AV.ren]))
  · obtain rfl : k = l.length := by omega
    clear hc
    have hM := hM2.out
    rw [List.take_length] at hM
    subst hM
    clear hM2
    refine amGo PT92_ok (h := ?_)
    ((refine post_ret (av := ?_) (by first | exact .inl rfl | exact .inr rfl) (show (Try.f15).results.toList = _ from by rw [Try.results15]) ?_ ?_); rotate_left; (focus (simp [retA, retL, ret1, lk, st, ldA, AV.cell]; rfl)); (try simp [*]))
    all_goals (try (rw [List.take_of_length_le (by simp)]))
set_option maxHeartbeats 4000000 in
theorem same_parts (l : List PrtL) (hl : okParts l = true) : FnPure Try.prog 14 [aParts l, aParts l] (.v (.bool true)) := by
  have hln := okParts_len hl
  have hlm : (l.map partRow).length = l.length := by simp
  have hid := idsLL_parts l
  unfold aParts
  refine fn_sp TT_ok Try.func14 (c := _) rfl (by simp [Try.ntmps14]) (fun B hI0 hro => ?_)
  rw [Try.ntmps14]
  simp only [enumA]
  refine amGo PT92_ok (h := ?_)
  refine s_loop (J := fun i : {k : Nat // k ≤ l.length} => ⟨42, [(0, .sl 3 (l.map partRow)), (1, .sl 3 (l.map partRow)), (4, .v (.bool false)), (5, .v (.int .i64 (i.1 : Int)))], [], []⟩) (μ := fun i => l.length - i.1) ⟨0, Nat.zero_le _⟩ ?_ (fun ⟨k, hk⟩ => ?_)
  · (refine weak_id rfl ?_ ?_ <;> ((try simp only [List.mem_cons, List.not_mem_nil, or_false, forall_eq_or_imp, forall_eq]); (try simp (disch := omega) [i64w, *])))
  refine amStr (h := ?_)
  refine amReg PT92_ok (h := ?_)
  refine amStr (h := ?_)
  (focus ((with_reducible refine sp_cond (b := ?_) ?_ (fun hc => ?_) (fun hc => ?_)); rotate_left; (focus (first | rfl | (simp [lk, AS.ev]; rfl))); all_goals (try simp at hc)))
  · have hkk := hc
    clear hc
    have hrow := parts_row hkk
    have hci := okParts_at hl k
    obtain ⟨p, hp⟩ : ∃ p, l.getD k (0#128, []) = p := ⟨_, rfl⟩
    rw [hp] at hrow hci
    have hwk : IntKind.i64.wrap ((k : Int) + 1) = (k : Int) + 1 := i64s k (by omega)
    obtain ⟨x, hx⟩ : ∃ x, lo p.1 = x := ⟨_, rfl⟩
    obtain ⟨y, hy⟩ : ∃ y, hi p.1 = y := ⟨_, rfl⟩
    obtain ⟨c, hcc⟩ : ∃ c, p.2 = c := ⟨_, rfl⟩
    rw [hx, hy, hcc] at hrow
    rw [hcc] at hci
    clear hp hx hy hcc
    refine amGo PT92_ok (h := ?_)
    refine k_lp (⟨k + 1, by omega⟩ : {k : Nat // k ≤ l.length}) (by dsimp only; omega) ?_
    (refine weak_id rfl ?_ ?_ <;> ((try simp only [List.mem_cons, List.not_mem_nil, or_false, forall_eq_or_imp, forall_eq]); (try simp (disch := omega) [i64w, *])))
  · obtain rfl : k = l.length := by omega
    clear hc
    refine amGo PT92_ok (h := ?_)
    ((refine post_ret (av := ?_) (by first | exact .inl rfl | exact .inr rfl) (show (Try.f14).results.toList = _ from by rw [Try.results14]) ?_ ?_); rotate_left; (focus (simp [retA, retL, ret1, lk, st, ldA, AV.cell]; rfl)); (try simp [*]))
end Go.Proofs.Ytekeidhndlnghaa
