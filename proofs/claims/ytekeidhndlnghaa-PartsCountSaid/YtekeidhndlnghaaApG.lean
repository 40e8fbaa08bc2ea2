/- parts.checked says what the document's valid says; the order of a term does not matter; plain lemmas; no condition. -/
import Derived.Test.YtekeidhndlnghaaPo16
import Derived.Test.YtekeidhndlnghaaRaG
import Derived.Test.YtekeidhndlnghaaOb7
import Derived.Test.YtekeidhndlnghaaEkG
/- Ck16: parts.checked says what the document's valid says; the order of a term does not matter; plain lemmas; no condition. -/
namespace Go.Proofs.Ytekeidhndlnghaa
set_option linter.unusedVariables false
set_option linter.unusedSimpArgs false
set_option linter.unusedSectionVars false
open Go.RowKit
theorem altK_iff6 {ts : List Int} {k : Nat} : altK ts k = true ↔ ∃ i : Nat, i < k ∧ ((i : Int) + 1) ∈ ts ∧ -((i : Int) + 1) ∈ ts := by
  unfold altK
  simp only [List.any_eq_true, List.mem_range, Bool.and_eq_true, decide_eq_true_eq]
theorem opp_alt {c : List Int} {N : Int} (hN : 0 ≤ N ∧ N ≤ 128) (h : ∀ y ∈ c, litOk y N = true) : opposed c = altK c N.toNat := by
  have key : opposed c = true ↔ altK c N.toNat = true := by
    rw [altK_iff6]
    unfold opposed
    simp only [List.any_eq_true, Bool.and_eq_true, decide_eq_true_eq]
    constructor
    · rintro ⟨y, hy, _, hn⟩
      have hr := litOk_range (h y hy)
      by_cases h0 : 0 < y
      · exact ⟨(y - 1).toNat, by omega, by rw [show (((y - 1).toNat : Nat) : Int) + 1 = y by omega]; exact hy, by rw [show (((y - 1).toNat : Nat) : Int) + 1 = y by omega]; exact hn⟩
      · exact ⟨(-y - 1).toNat, by omega, by rw [show (((-y - 1).toNat : Nat) : Int) + 1 = -y by omega]; exact hn, by rw [show -((((-y - 1).toNat : Nat) : Int) + 1) = y by omega]; exact hy⟩
    · rintro ⟨i, _, h1, h2⟩
      exact ⟨_, h1, by have := (litVar_abs (h _ h1)).2.1; omega, h2⟩
  cases h1 : opposed c <;> cases h2 : altK c N.toNat <;> simp_all
theorem chkL_valid (N : Int) (L : List (List Int)) (ts : List Int) : chkL N L ts = if validT N L ts = true then some (orderL ts) else none := by
  unfold chkL validT
  by_cases hz : checkT N L = 0
  · obtain ⟨n0, n1, _, _⟩ := checkT_ok hz
    rw [if_pos hz]
    unfold termL
    cases hv : ts.all fun y => litOk y N
    · simp
    · rw [adjOpp_altK ⟨n0, n1⟩ (List.all_eq_true.1 hv), opp_alt ⟨n0, n1⟩ (List.all_eq_true.1 hv)]
      simp [hz]
  · rw [if_neg hz]
    simp [hz]
theorem leftL_order (c ts : List Int) : leftL c (orderL ts) = leftL c ts := by
  unfold leftL
  simp [mem_orderL]
theorem restL_order (c ts : List Int) : restL c (orderL ts) = restL c ts := by
  unfold restL
  simp [mem_orderL]
theorem alnB_order (L : List (List Int)) (ts cs : List Int) : alnB L (orderL ts) cs = alnB L ts cs := by
  unfold alnB
  simp [leftL_order]
theorem alnL_order (L : List (List Int)) (ts cs : List Int) : alnL L (orderL ts) cs = alnL L ts cs := by
  unfold alnL
  simp [restL_order]
end Go.Proofs.Ytekeidhndlnghaa
/- Ap16: parts.Alone reads as the document's Alone; no condition. -/
namespace Go.Proofs.Ytekeidhndlnghaa
set_option linter.unusedVariables false
set_option linter.unusedSimpArgs false
set_option linter.unusedSectionVars false
open Go.RowKit
set_option maxRecDepth 100000
theorem Rv.tupM {G G' : Gh} {cs ds : List AV} {v : Value} (h : Rv G (.tup cs) v) (hl : ds.length = cs.length) (hd : ∀ i u, i < cs.length → Rv G (cs.getD i .any) u → Rv G' (ds.getD i .any) u) : Rv G' (.tup ds) v := by
  cases h with
  | tup _ us h1 h2 => exact .tup ds us (by omega) fun i hi => hd i _ (by omega) (h2 i (by omega))
theorem okInts_order {c : List Int} (h : okInts c = true) : okInts (orderL c) = true := by
  have h1 := okInts_len h
  have h2 := orderL_len c
  simp only [okInts, Bool.and_eq_true, List.all_eq_true, decide_eq_true_eq]
  exact ⟨fun y hy => okInts_mem h y (mem_orderL.1 hy), by omega⟩
theorem valid_check {N : Int} {L : List (List Int)} {ts : List Int} (h : validT N L ts = true) : checkT N L = 0 := by
  unfold validT at h
  simp only [Bool.and_eq_true, decide_eq_true_eq] at h
  exact h.1.1
theorem alone_objV (N : Int) (L : List (List Int)) (ts cs : List Int) (s : BitVec 128) (hN : okI N = true) (hL : okRows L = true) (ht : okInts ts = true) (hcs : okInts cs = true) (hc4 : cs.length ≤ 4096) (hv : validT N L ts = true) (hg : alnB L ts cs = true) :
    FnObj Try.prog 17 [aTh N L, aInts ts, aPart s cs] (resT N (alnL L ts cs)) (objT (alnL L ts cs)) (idsT (alnL L ts cs)) := by
  have h := alone_obj N L ts (orderL ts) cs s hN hL ht (okInts_order ht) hcs hc4 (by rw [chkL_valid, if_pos hv]) (valid_check hv) (by rw [alnB_order]; exact hg)
  rw [alnL_order] at h
  exact h
theorem alone_p (N : Int) (L : List (List Int)) (ts cs : List Int) (s : BitVec 128) (hN : okI N = true) (hL : okRows L = true) (ht : okInts ts = true) (hcs : okInts cs = true) (hc4 : cs.length ≤ 4096) : FnPure Try.prog 17 [aTh N L, aInts ts, aPart s cs] (rAloneA N L ts cs) := by
  cases hv : validT N L ts
  · have hr : rAloneA N L ts cs = alnE := by unfold rAloneA; rw [hv]; simp
    rw [hr]
    exact alone_err1 N L ts cs s hN hL ht hcs (by rw [chkL_valid, hv]; simp)
  · cases hg : alnB L ts cs
    · have hr : rAloneA N L ts cs = alnE := by unfold rAloneA; rw [hg]; simp
      rw [hr]
      exact alone_err2 N L ts (orderL ts) cs s hN hL ht (okInts_order ht) hcs hc4 (by rw [chkL_valid, if_pos hv]) (valid_check hv) (by rw [alnB_order]; exact hg)
    · have hr : rAloneA N L ts cs = .tup [aTh N (alnL L ts cs), .v (.int .i64 0)] := by unfold rAloneA; rw [if_pos ⟨hv, hg⟩]
      rw [hr]
      refine obj_pure (alone_objV N L ts cs s hN hL ht hcs hc4 hv hg) fun B G n w a v T hr hT hv => ?_
      refine hv.tupM rfl fun i u hi hu => ?_
      match i, hi with
      | 0, _ => exact readT_th hr hT (k := 0) (b := 1) rfl (fun j hj => by simp only [objT, lk]; rw [if_neg (by omega)]; exact lk_fam_add hj) hu
      | 1, _ => exact hu.isV rfl
end Go.Proofs.Ytekeidhndlnghaa
/- Sh16: The table of PartsAlone; no condition. -/
namespace Go.Proofs.Ytekeidhndlnghaa
set_option linter.unusedVariables false
set_option linter.unusedSimpArgs false
set_option linter.unusedSectionVars false
open Go.RowKit
set_option maxRecDepth 100000
theorem rAlone_q (N : Int) (L : List (List Int)) (ts cs : List Int) (hN : okI N = true) (hL : okRows L = true) (ht : okInts ts = true) (hcs : okInts cs = true) (hk : decide (cs.length ≤ 4096) = true) : FnPure Try.prog 18 [aTh N L, aInts ts, aInts cs] (rAloneA N L ts cs) :=
  rAlone_p N L ts cs hN hL ht hcs (of_decide_eq_true hk) fun hv => by
    obtain ⟨_, _, h1, h2⟩ := checkT_ok (valid_check hv)
    exact ⟨List.all_eq_true.2 fun c hc => okL_iff.2 fun y hy => by have := litOk_range ((h2 c hc).2 y hy); omega, h1⟩
@[simp] def g_r6Alone : List AV → Option (AV × Bool)
  | [.agg [.v (.int .i64 N), a0], a1, a2] => (match toRows a0 with | some L => (match toInts a1 with | some ts => (match toInts a2 with | some cs => if (okI N && okRows L && okInts ts && okInts cs && decide (cs.length ≤ 4096)) = true then some (rAloneA N L ts cs, false) else none | none => none) | none => none) | none => none)
  | _ => none
theorem e_r6Alone : EntOk Try.prog 18 g_r6Alone := ent_pure (by kernel_rfl) fun args r fr h => by
  unfold g_r6Alone at h
  split at h
  · rename_i N a0 a1 a2
    split at h
    · rename_i L t0
      split at h
      · rename_i ts t1
        split at h
        · rename_i cs t2
          split at h
          · rename_i hc
            simp only [Bool.and_eq_true] at hc
            obtain ⟨⟨⟨⟨m0, o0⟩, o1⟩, o2⟩, hk⟩ := hc
            cases h
            exact ⟨FnPure.cov (rAlone_q N L ts cs m0 o0 o1 o2 hk) (.cons (cov_th _ (cov_rows t0)) (.cons (cov_ints t1) (.cons (cov_ints t2) .nil))), rfl⟩
          · cases h
        · cases h
      · cases h
    · cases h
  · cases h

@[simp] def g_works6 : List AV → Option (AV × Bool)
  | [] => if (true) = true then some (.v (.bool true), false) else none
  | _ => none
theorem e_works6 : EntOk Try.prog 11 g_works6 := ent_pure (by kernel_rfl) fun args r fr h => by
  unfold g_works6 at h
  split at h
  · split at h
    · rename_i hc
      cases h
      exact ⟨FnPure.cov (works_p) .nil, rfl⟩
    · cases h
  · cases h

def l88 : List (FuncId × (List AV → Option (AV × Bool))) :=
  (18, g_r6Alone) :: (11, g_works6) :: l87
theorem l88_ok : ∀ p ∈ l88, EntOk Try.prog p.1 p.2 := ent_cons e_r6Alone (ent_cons e_works6 (l87_ok))
def PT88 : PTab := tab l88
theorem PT88_ok : PTok Try.prog PT88 := tab_ok l88_ok
@[simp] theorem PT88_litVar : PT88 31 = g_litVar := rfl
@[simp] theorem PT88_litValid : PT88 57 = g_litValid := rfl
@[simp] theorem PT88_contains : PT88 50 = g_contains := rfl
@[simp] theorem PT88_check : PT88 47 = g_check := rfl
@[simp] theorem PT88_with : PT88 33 = g_with := rfl
@[simp] theorem PT88_without : PT88 30 = g_without := rfl
@[simp] theorem PT88_all : PT88 29 = g_all := rfl
@[simp] theorem PT88_rValid : PT88 55 = g_rValid := rfl
@[simp] theorem PT88_rHas : PT88 56 = g_rHas := rfl
@[simp] theorem PT88_rHolds : PT88 45 = g_rHolds := rfl
@[simp] theorem PT88_rAssign : PT88 44 = g_rAssign := rfl
@[simp] theorem PT88_rCheck : PT88 43 = g_rCheck := rfl
@[simp] theorem PT88_rEval : PT88 23 = g_rEval := rfl
@[simp] theorem PT88_litvalid : PT88 58 = g_litvalid := rfl
@[simp] theorem PT88_opposite : PT88 60 = g_opposite := rfl
@[simp] theorem PT88_clone : PT88 65 = g_clone := rfl
@[simp] theorem PT88_order : PT88 59 = g_order := rfl
@[simp] theorem PT88_term : PT88 48 = g_term := rfl
@[simp] theorem PT88_pRest : PT88 32 = g_pRest := rfl
@[simp] theorem PT88_pChk : PT88 27 = g_pChk := rfl
@[simp] theorem PT88_r6Valid : PT88 34 = g_r6Valid := rfl
@[simp] theorem PT88_r6Left : PT88 22 = g_r6Left := rfl
@[simp] theorem PT88_r6Rest : PT88 40 = g_r6Rest := rfl
@[simp] theorem PT88_r6Same : PT88 19 = g_r6Same := rfl
@[simp] theorem PT88_few6 : PT88 10 = g_few6 := rfl
@[simp] theorem PT88_r6Alone : PT88 18 = g_r6Alone := rfl
@[simp] theorem PT88_works6 : PT88 11 = g_works6 := rfl
end Go.Proofs.Ytekeidhndlnghaa
