/- The cache's ring of links: leave, join; no condition. -/
import Derived.Test.YtafikekndefjcaaDoorAm31
import Derived.Test.YtafikekndefjcaaDoorWa
import Derived.Test.YtafikekndefjcaaDoorBb17
import Derived.Test.YtafikekndefjcaaDoorWk17
namespace Go.Proofs.YtafikekndefjcaaDoor
set_option linter.unusedVariables false
set_option linter.unusedSimpArgs false
set_option linter.unusedSectionVars false
open Go.RowKit
attribute [local simp] List.getD_cons_zero List.getD_cons_succ List.getD_nil undef gvars runL runE effA stepA dstOk wantA core lk st dl AS.ev AS.evs AS.put AS.upd updO updI nxt cPick cAlloc cBox cBuild cBuildS cLoad cStore cNil plainOf cBin cNilS isNilS nilA cUn cConvX cConvB cConv bytesOf rowB cMake cSlice slA idxA cFA cF cIA cIX cIS cI cExt cLen cApp cMM cFun cCall lenA lenM isNilM nilM cNilM cMakeM hintB cMapK cLook foundR lookR cUpd putM cDel delM findA isKeyB Instr.sameNow AS.entry AS.bound AS.callee sc1 sc2 ixOk ldA AV.flat AV.cell AV.cells Value.oneCell' fillA spl chunk zeros AS.parts AS.rows AS.shut AS.shut1 AS.shut2 AS.shutL AS.shutM AV.ids idsL idsLL eqAll bndA AV.scalar AV.scalar1 AV.isV Ef.app Ef.pk ptOf pntO wrO wr
attribute [-simp] List.getD_eq_getElem?_getD
set_option maxRecDepth 100000
def lnkO (p q : Nat) (e : List Int × Int) : AObj := ⟨91, 4, [[.ptr p 0 0, .ptr q 0 0, .v (.string (strOfNums e.1)), .v (.int .i64 e.2)]]⟩
def lnk0 (e : List Int × Int) : AObj := ⟨91, 4, [[.v (.pointer none), .v (.pointer none), .v (.string (strOfNums e.1)), .v (.int .i64 e.2)]]⟩
def prv (n j : Nat) : Nat := if j = 0 then n else j - 1
def nxl (n j : Nat) : Nat := if j = n then 0 else j + 1
theorem prv_le {n j : Nat} (h : j ≤ n) : prv n j ≤ n := by unfold prv; split <;> omega
theorem nxl_le {n j : Nat} (h : j ≤ n) : nxl n j ≤ n := by unfold nxl; split <;> omega
structure RingAt (O : List (Nat × AObj)) (n : Nat) (nm : Nat → Nat) (en : Nat → List Int × Int) : Prop where
  lk : ∀ j, j ≤ n → lk O (nm j) = some (lnkO (nm (prv n j)) (nm (nxl n j)) (en j))
  inj : ∀ i j, i ≤ n → j ≤ n → nm i = nm j → i = j
def wo {α : Type} (f : Nat → α) (i j : Nat) : α := if j < i then f j else f (j + 1)
def wi {α : Type} (f : Nat → α) (n : Nat) (x : α) (j : Nat) : α := if j = n + 1 then x else f j
theorem ring_leave {O O' : List (Nat × AObj)} {n i : Nat} {nm : Nat → Nat} {en : Nat → List Int × Int} (h : RingAt O n nm en) (h1 : 1 ≤ i) (h2 : i ≤ n)
    (hO : ∀ t, t ≤ n → t ≠ i → _root_.Go.Proofs.YtafikekndefjcaaDoor.lk O' (nm t) = some (lnkO (if t = nxl n i then nm (i - 1) else nm (prv n t)) (if t = i - 1 then nm (nxl n i) else nm (nxl n t)) (en t))) : RingAt O' (n - 1) (wo nm i) (wo en i) := by
  refine ⟨fun j hj => ?_, fun a b ha hb e => ?_⟩
  · obtain ⟨t, ht⟩ : ∃ t, (if j < i then j else j + 1) = t := ⟨_, rfl⟩
    have e1 : wo nm i j = nm t := by unfold wo; rw [← ht]; split <;> rfl
    have e2 : wo en i j = en t := by unfold wo; rw [← ht]; split <;> rfl
    have ht1 : t ≤ n := by rw [← ht]; split <;> omega
    have ht2 : t ≠ i := by rw [← ht]; split <;> omega
    rw [e1, e2, hO t ht1 ht2]
    have e3 : (if t = nxl n i then nm (i - 1) else nm (prv n t)) = wo nm i (prv (n - 1) j) := by
      unfold wo prv nxl
      rw [← ht]
      repeat' split
      all_goals first | rfl | (congr 1; omega) | omega
    have e4 : (if t = i - 1 then nm (nxl n i) else nm (nxl n t)) = wo nm i (nxl (n - 1) j) := by
      unfold wo nxl
      rw [← ht]
      repeat' split
      all_goals first | rfl | (congr 1; omega) | omega
    rw [e3, e4]
  · unfold wo at e
    split at e <;> split at e
    · exact h.inj _ _ (by omega) (by omega) e
    · have := h.inj _ _ (by omega) (by omega) e; omega
    · have := h.inj _ _ (by omega) (by omega) e; omega
    · have := h.inj _ _ (by omega) (by omega) e; omega
theorem ring_join {O O' : List (Nat × AObj)} {n x : Nat} {nm : Nat → Nat} {en : Nat → List Int × Int} {ex : List Int × Int} (h : RingAt O n nm en) (hx : ∀ j, j ≤ n → nm j ≠ x)
    (hO : ∀ t, t ≤ n → _root_.Go.Proofs.YtafikekndefjcaaDoor.lk O' (nm t) = some (lnkO (if t = 0 then x else nm (prv n t)) (if t = n then x else nm (nxl n t)) (en t))) (hOx : _root_.Go.Proofs.YtafikekndefjcaaDoor.lk O' x = some (lnkO (nm n) (nm 0) ex)) : RingAt O' (n + 1) (wi nm n x) (wi en n ex) := by
  refine ⟨fun j hj => ?_, fun a b ha hb e => ?_⟩
  · by_cases e : j = n + 1
    · subst e
      have e1 : prv (n + 1) (n + 1) = n := by unfold prv; rw [if_neg (by omega)]; omega
      have e2 : nxl (n + 1) (n + 1) = 0 := by unfold nxl; rw [if_pos rfl]
      have a1 : wi nm n x (prv (n + 1) (n + 1)) = nm n := by rw [e1]; unfold wi; rw [if_neg (by omega)]
      have a2 : wi nm n x (nxl (n + 1) (n + 1)) = nm 0 := by rw [e2]; unfold wi; rw [if_neg (by omega)]
      have a3 : wi nm n x (n + 1) = x := by unfold wi; rw [if_pos rfl]
      have a4 : wi en n ex (n + 1) = ex := by unfold wi; rw [if_pos rfl]
      rw [a1, a2, a3, a4, hOx]
    · have a1 : wi nm n x (prv (n + 1) j) = if j = 0 then x else nm (prv n j) := by
        unfold wi prv
        repeat' split
        all_goals first | rfl | omega
      have a2 : wi nm n x (nxl (n + 1) j) = if j = n then x else nm (nxl n j) := by
        unfold wi nxl
        repeat' split
        all_goals first | rfl | omega
      have a3 : wi nm n x j = nm j := by unfold wi; rw [if_neg e]
      have a4 : wi en n ex j = en j := by unfold wi; rw [if_neg e]
      rw [a1, a2, a3, a4, hO j (by omega)]
  · unfold wi at e
    split at e <;> split at e
    · omega
    · exact absurd e.symm (hx _ (by omega))
    · exact absurd e (hx _ (by omega))
    · exact h.inj _ _ (by omega) (by omega) e
attribute [local simp] lk_st
set_option maxHeartbeats 2000000 in
theorem leave_raw {O : List (Nat × AObj)} {I : List Nat} {p l q pp qq : Nat} {e ep eq : List Int × Int} (hl : lk O l = some (lnkO p q e)) (hp : lk O p = some (lnkO pp l ep)) (hq : lk O q = some (lnkO l qq eq)) (npl : p ≠ l) (nql : q ≠ l) (npq : p ≠ q) (ip : p ∈ I) (iq : q ∈ I) :
    ProcB Tryd.prog TT Go.Proofs.Tryd.f65 [.ptr l 0 0] O I (fun av O' I' => av = .tup [] ∧ I' = I ∧ O' = st (st O p (lnkO pp q ep)) q (lnkO p qq eq)) := by
  have npl2 := npl.symm
  have nql2 := nql.symm
  have npq2 := npq.symm
  unfold lnkO at *
  refine ⟨_, rfl, fun B hI0 hro => ?_⟩
  rw [Tryd.ntmps65, Tryd.results65]
  simp only [enumA]
  refine amStr (h := ?_)
  refine amDrw PTc_ok (h := ?_)
  refine amStr (h := ?_)
  refine ⟨.inl rfl, _, rfl, rfl, ?_, ?_⟩ <;> simp [*]
theorem leave_raw1 {O : List (Nat × AObj)} {I : List Nat} {p l : Nat} {e ep : List Int × Int} (hl : lk O l = some (lnkO p p e)) (hp : lk O p = some (lnkO l l ep)) (npl : p ≠ l) (ip : p ∈ I) :
    ProcB Tryd.prog TT Go.Proofs.Tryd.f65 [.ptr l 0 0] O I (fun av O' I' => av = .tup [] ∧ I' = I ∧ O' = st (st O p (lnkO l p ep)) p (lnkO p p ep)) := by
  have npl2 := npl.symm
  unfold lnkO at *
  refine ⟨_, rfl, fun B hI0 hro => ?_⟩
  rw [Tryd.ntmps65, Tryd.results65]
  simp only [enumA]
  refine amStr (h := ?_)
  refine amDrw PTc_ok (h := ?_)
  refine amStr (h := ?_)
  refine ⟨.inl rfl, _, rfl, rfl, ?_, ?_⟩ <;> simp [*]
theorem join_raw {O : List (Nat × AObj)} {I : List Nat} {p s x pp qq : Nat} {ep es ex : List Int × Int} (hp : lk O p = some (lnkO pp s ep)) (hs : lk O s = some (lnkO p qq es)) (hx : lk O x = some (lnk0 ex)) (nps : p ≠ s) (npx : p ≠ x) (nsx : s ≠ x) (ip : p ∈ I) (is : s ∈ I) (ix : x ∈ I) :
    ProcB Tryd.prog TT Go.Proofs.Tryd.f46 [.ptr p 0 0, .ptr x 0 0] O I (fun av O' I' => av = .tup [] ∧ I' = I ∧ ∀ k, lk O' k = if p = k then some (lnkO pp x ep) else if s = k then some (lnkO x qq es) else if x = k then some (lnkO p s ex) else lk O k) := by
  have nps2 := nps.symm
  have npx2 := npx.symm
  have nsx2 := nsx.symm
  unfold lnkO lnk0 at *
  refine ⟨_, rfl, fun B hI0 hro => ?_⟩
  rw [Tryd.ntmps46, Tryd.results46]
  simp only [enumA]
  refine amStr (h := ?_)
  refine amReg PTc_ok (h := ?_)
  refine amStr (h := ?_)
  refine amReg PTc_ok (h := ?_)
  refine amStr (h := ?_)
  refine ⟨.inl rfl, _, rfl, rfl, by simp [*], fun k => ?_⟩
  by_cases e1 : p = k
  · subst e1; simp [*]
  · by_cases e2 : s = k
    · subst e2; simp [*]
    · by_cases e3 : x = k
      · subst e3; simp [*]
      · simp [*]
theorem join_raw1 {O : List (Nat × AObj)} {I : List Nat} {p x : Nat} {ep ex : List Int × Int} (hp : lk O p = some (lnkO p p ep)) (hx : lk O x = some (lnk0 ex)) (npx : p ≠ x) (ip : p ∈ I) (ix : x ∈ I) :
    ProcB Tryd.prog TT Go.Proofs.Tryd.f46 [.ptr p 0 0, .ptr x 0 0] O I (fun av O' I' => av = .tup [] ∧ I' = I ∧ ∀ k, lk O' k = if p = k then some (lnkO x x ep) else if x = k then some (lnkO p p ex) else lk O k) := by
  have npx2 := npx.symm
  unfold lnkO lnk0 at *
  refine ⟨_, rfl, fun B hI0 hro => ?_⟩
  rw [Tryd.ntmps46, Tryd.results46]
  simp only [enumA]
  refine amStr (h := ?_)
  refine amReg PTc_ok (h := ?_)
  refine amStr (h := ?_)
  refine amReg PTc_ok (h := ?_)
  refine amStr (h := ?_)
  refine ⟨.inl rfl, _, rfl, rfl, by simp [*], fun k => ?_⟩
  by_cases e1 : p = k
  · subst e1; simp [*]
  · by_cases e3 : x = k
    · subst e3; simp [*]
    · simp [*]
theorem leave_proc {O : List (Nat × AObj)} {I : List Nat} {n i : Nat} {nm : Nat → Nat} {en : Nat → List Int × Int} (h : RingAt O n nm en) (h1 : 1 ≤ i) (h2 : i ≤ n) (hI : ∀ j, j ≤ n → nm j ∈ I) :
    ProcB Tryd.prog TT Go.Proofs.Tryd.f65 [.ptr (nm i) 0 0] O I (fun av O' I' => av = .tup [] ∧ I' = I ∧ RingAt O' (n - 1) (wo nm i) (wo en i) ∧ ∀ k, (∀ t, t ≤ n → t ≠ i → k ≠ nm t) → lk O' k = lk O k) := by
  have hpi : prv n i = i - 1 := by unfold prv; rw [if_neg (by omega)]
  have hl := h.lk i h2
  have hp := h.lk (i - 1) (by omega)
  have hq := h.lk (nxl n i) (nxl_le h2)
  have hnp : nxl n (i - 1) = i := by unfold nxl; rw [if_neg (by omega)]; omega
  have hpn : prv n (nxl n i) = i := by unfold nxl prv; split <;> split <;> omega
  have hqi : nxl n i ≠ i := by unfold nxl; split <;> omega
  rw [hpi] at hl
  rw [hnp] at hp
  rw [hpn] at hq
  have npl : nm (i - 1) ≠ nm i := fun e => by have := h.inj _ _ (by omega) h2 e; omega
  have nql : nm (nxl n i) ≠ nm i := fun e => hqi (h.inj _ _ (nxl_le h2) h2 e)
  by_cases hpq : nxl n i = i - 1
  · rw [hpq] at hl hq
    have hpp : prv n (i - 1) = i := by rw [← hpq]; exact hpn
    rw [hpp] at hp
    refine (leave_raw1 hl hp npl (hI _ (by omega))).mono fun av O' I' hK => ?_
    obtain ⟨k1, k2, rfl⟩ := hK
    refine ⟨k1, k2, ring_leave h h1 h2 fun t ht hti => ?_, fun k hk => ?_⟩
    · obtain rfl : t = i - 1 := by unfold nxl at hpq; split at hpq <;> omega
      rw [if_pos hpq.symm, if_pos rfl, hpq, lk_st, if_pos rfl]
    · have := hk (i - 1) (by omega) (by omega)
      rw [lk_st, if_neg (Ne.symm this), lk_st, if_neg (Ne.symm this)]
  · have npq : nm (i - 1) ≠ nm (nxl n i) := fun e => hpq (h.inj _ _ (by omega) (nxl_le h2) e).symm
    refine (leave_raw hl hp hq npl nql npq (hI _ (by omega)) (hI _ (nxl_le h2))).mono fun av O' I' hK => ?_
    obtain ⟨k1, k2, rfl⟩ := hK
    refine ⟨k1, k2, ring_leave h h1 h2 fun t ht hti => ?_, fun k hk => ?_⟩
    · rw [lk_st]
      by_cases e1 : t = nxl n i
      · subst e1
        rw [if_pos rfl, if_pos rfl, if_neg (fun e => hpq e)]
      · rw [if_neg (fun e => e1 (h.inj _ _ (nxl_le h2) ht e).symm), if_neg e1, lk_st]
        by_cases e2 : t = i - 1
        · subst e2
          rw [if_pos rfl, if_pos rfl]
        · rw [if_neg (fun e => e2 (h.inj _ _ (by omega) ht e).symm), if_neg e2, h.lk t ht]
    · have a1 := hk (i - 1) (by omega) (by omega)
      have a2 := hk (nxl n i) (nxl_le h2) hqi
      rw [lk_st, if_neg (Ne.symm a2), lk_st, if_neg (Ne.symm a1)]
theorem join_proc {O : List (Nat × AObj)} {I : List Nat} {n x : Nat} {nm : Nat → Nat} {en : Nat → List Int × Int} {ex : List Int × Int} (h : RingAt O n nm en) (hx : lk O x = some (lnk0 ex)) (hn : ∀ j, j ≤ n → nm j ≠ x) (hI : ∀ j, j ≤ n → nm j ∈ I) (ix : x ∈ I) :
    ProcB Tryd.prog TT Go.Proofs.Tryd.f46 [.ptr (nm n) 0 0, .ptr x 0 0] O I (fun av O' I' => av = .tup [] ∧ I' = I ∧ RingAt O' (n + 1) (wi nm n x) (wi en n ex) ∧ ∀ k, (∀ t, t ≤ n → k ≠ nm t) → k ≠ x → lk O' k = lk O k) := by
  have hp := h.lk n (Nat.le_refl _)
  have hs := h.lk 0 (by omega)
  have hnn : nxl n n = 0 := by unfold nxl; rw [if_pos rfl]
  have hp0 : prv n 0 = n := by unfold prv; rw [if_pos rfl]
  rw [hnn] at hp
  rw [hp0] at hs
  by_cases hn0 : n = 0
  · subst hn0
    rw [hp0] at hp
    refine (join_raw1 hp hx (hn 0 (by omega)) (hI _ (by omega)) ix).mono fun av O' I' hK => ?_
    obtain ⟨k1, k2, k3⟩ := hK
    refine ⟨k1, k2, ring_join h hn (fun t ht => ?_) ?_, fun k hk hkx => ?_⟩
    · obtain rfl : t = 0 := by omega
      rw [k3, if_pos rfl, if_pos rfl]
      rfl
    · rw [k3, if_neg (hn 0 (by omega)), if_pos rfl]
    · rw [k3, if_neg (Ne.symm (hk 0 (by omega))), if_neg (Ne.symm hkx)]
  · have nps : nm n ≠ nm 0 := fun e => hn0 (h.inj _ _ (Nat.le_refl _) (by omega) e)
    refine (join_raw hp hs hx nps (hn n (Nat.le_refl _)) (hn 0 (by omega)) (hI _ (Nat.le_refl _)) (hI _ (by omega)) ix).mono fun av O' I' hK => ?_
    obtain ⟨k1, k2, k3⟩ := hK
    refine ⟨k1, k2, ring_join h hn (fun t ht => ?_) ?_, fun k hk hkx => ?_⟩
    · rw [k3]
      by_cases e1 : t = n
      · subst e1
        rw [if_pos rfl, if_pos rfl, if_neg hn0]
      · rw [if_neg (fun e => e1 (h.inj _ _ (Nat.le_refl _) ht e).symm), if_neg e1]
        by_cases e2 : t = 0
        · subst e2
          rw [if_pos rfl, if_pos rfl]
        · rw [if_neg (fun e => e2 (h.inj _ _ (by omega) ht e).symm), if_neg e2, if_neg (Ne.symm (hn t ht)), h.lk t ht]
    · rw [k3, if_neg (hn n (Nat.le_refl _)), if_neg (hn 0 (by omega)), if_pos rfl]
    · rw [k3, if_neg (Ne.symm (hk n (Nat.le_refl _))), if_neg (Ne.symm (hk 0 (by omega))), if_neg (Ne.symm hkx)]
end Go.Proofs.YtafikekndefjcaaDoor
