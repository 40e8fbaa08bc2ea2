/- The parity nets are what the law's function makes; no condition. -/
import Derived.Test.YtecdhmiamlgibaaDoorPl39
import Derived.Test.YtecdhmiamlgibaaDoorWa
namespace Go.Proofs.YtecdhmiamlgibaaDoor
set_option linter.unusedVariables false
set_option linter.unusedSimpArgs false
set_option linter.unusedSectionVars false
open Go.RowKit
attribute [local simp] List.getD_cons_zero List.getD_cons_succ List.getD_nil undef gvars runL runE effA stepA dstOk wantA core lk st dl AS.ev AS.evs AS.put AS.upd updO updI nxt cPick cAlloc cBox cBuild cBuildS cLoad cStore cNil plainOf cBin cNilS isNilS nilA cUn cConvX cConvB cConv bytesOf rowB cMake cSlice slA idxA cFA cF cIA cIX cIS cI cExt cLen cApp cMM cFun cCall lenA lenM isNilM nilM cNilM cMakeM hintB cMapK cLook foundR lookR cUpd putM cDel delM findA isKeyB Instr.sameNow AS.entry AS.bound AS.callee sc1 sc2 ixOk ldA AV.flat AV.cell AV.cells Value.oneCell' fillA spl chunk zeros AS.parts AS.rows AS.shut AS.shut1 AS.shut2 AS.shutL AS.shutM AV.ids idsL idsLL eqAll bndA AV.scalar AV.scalar1 AV.isV Ef.app Ef.pk ptOf pntO wrO wr
attribute [-simp] List.getD_eq_getElem?_getD
set_option maxRecDepth 100000
theorem range1 : List.range 1 = [0] := rfl
theorem range2 : List.range 2 = [0, 1] := rfl
theorem range3 : List.range 3 = [0, 1, 2] := rfl
theorem range4 : List.range 4 = [0, 1, 2, 3] := rfl
theorem range6 : List.range 6 = [0, 1, 2, 3, 4, 5] := rfl
attribute [local simp] range1 range2 range3 range4 range6
def ndR (x : Nd) : List AV := [.v (.int .i64 x.1), .v (.int .i64 x.2.1), aInts x.2.2]
@[simp ↓ high] theorem ids_nds (l : List Nd) : idsLL (l.map ndR) = [] := by
  induction l with
  | nil => rfl
  | cons p r ih => simp [idsLL, idsL, AV.ids, ih, ndR]
@[simp ↓ high] theorem ren_nds (ρ : Nat → Nat) (l : List Nd) : renLL ρ (l.map ndR) = l.map ndR := renLL_pure ρ _ (ids_nds l)
def prL (y n k : Nat) : List (List Int) := [[(y : Int), (k : Int) + 1], [(n : Int), (k : Int)], [(y : Int), (k : Int)], [(n : Int), (k : Int) + 1]]
def addK (P : List Nd) (V : Int) (y m K j : Nat) : List Nd := P ++ [(2, V, []), (2, -V, [])] ++ ((prL y m K).take j).map fun c => (3, 0, c)
theorem addK_succ {P : List Nd} {V : Int} {y m K j : Nat} (h : j < 4) : addK P V y m K (j + 1) = addK P V y m K j ++ [(3, 0, (prL y m K).getD j [])] := by
  unfold addK
  rw [List.take_add_one, List.map_append, List.append_assoc _ (List.map _ _)]
  congr 2
  rcases (by omega : j = 0 ∨ j = 1 ∨ j = 2 ∨ j = 3) with rfl | rfl | rfl | rfl <;> rfl
theorem addK_len {P : List Nd} {V : Int} {y m K j : Nat} (h : j ≤ 4) (hP : P.length = K) : (addK P V y m K j).length = K + 2 + j := by
  unfold addK
  rw [List.length_append, List.length_append, List.length_map, List.length_take, hP]
  simp only [List.length_cons, List.length_nil, prL]
  omega
set_option maxHeartbeats 16000000 in
theorem parity_p (v : Nat) (hv : v < 20) : FnPure Tryd.prog 35 [.v (.int .i64 ((v : Int) + 1))] (aNet 128 (parN v)) := by
  unfold aNet aNds
  refine fn_sp TT_ok Tryd.func35 (c := _) rfl (by simp [Tryd.ntmps35]) (fun B hI0 hro => ?_)
  rw [Tryd.ntmps35]
  simp only [enumA]
  refine amStr (h := ?_)
  refine amReg PT161_ok (h := ?_)
  refine amStr (h := ?_)
  refine amReg PT161_ok (h := ?_)
  refine amStr (h := ?_)
  refine amReg PT161_ok (h := ?_)
  refine amStr (h := ?_)
  refine amReg PT161_ok (h := ?_)
  refine amStr (h := ?_)
  refine s_loop (J := fun i : {i : Nat // i ≤ v} => ⟨82, [(0, .v (.int .i64 ((v : Int) + 1))), (2, .ptr 0 0 0), (3, .ptr 5 0 0), (4, .v (.int .i64 (yesN i.1 : Int))), (5, .v (.int .i64 (noN i.1 : Int))), (6, .v (.int .i64 ((i.1 : Int) + 2)))], [(0, ⟨24, 2, [[.v (.int .i64 0), .v (.slice none 0 0)]]⟩), (50, ⟨57, 3, (parN i.1).map ndR⟩), (5, ⟨24, 2, [[.v (.int .i64 128), .ref 50 0 (8 * i.1 + 2)]]⟩)], [50, 5, 0]⟩) (μ := fun i => v - i.1) ⟨0, Nat.zero_le _⟩ ?_ (fun ⟨i, hi⟩ => ?_)
  · (refine weak_of (fun q => if q = 50 then 3 else q) ⟨rfl, ?_, ?_, ?_⟩ <;> ((try simp only [List.mem_cons, List.not_mem_nil, or_false, forall_eq_or_imp, forall_eq]); (try simp (disch := omega) [lk, AV.ids, idsL, idsLL, AV.ren, renL, renLL, i64w, *])))
    · exact ⟨rfl, rfl⟩
    · rfl
  dsimp only
  have hpl := parN_len i
  have hnx : parN (i + 1) = parN i ++ blkN ((i : Int) + 2) (yesN i) (noN i) (8 * i + 2) := rfl
  have hyl := yesN_lt i
  have hml := noN_lt i
  have hy1 : yesN (i + 1) = 8 * i + 2 + 7 := by simp only [yesN]
  have hm1 : noN (i + 1) = 8 * i + 2 + 6 := by simp only [noN]
  generalize yesN i = y at hyl hnx ⊢
  generalize noN i = m at hml hnx ⊢
  obtain ⟨P, hPe⟩ : ∃ P, parN i = P := ⟨_, rfl⟩
  rw [hPe] at hpl hnx ⊢
  have HPe := Lib.hid hPe
  clear hPe
  have hK160 : 8 * i + 2 ≤ 160 := by omega
  have hKn : 8 * (i + 1) + 2 = 8 * i + 2 + 8 := by omega
  obtain ⟨K, hK⟩ : ∃ K, 8 * i + 2 = K := ⟨_, rfl⟩
  obtain ⟨V, hV⟩ : ∃ V, (i : Int) + 2 = V := ⟨_, rfl⟩
  rw [hK] at hpl hyl hml hnx hK160 hKn hy1 hm1 ⊢
  rw [hV] at hnx ⊢
  have hiv : (i : Int) + 2 ≤ (v : Int) + 1 ↔ i < v := by omega
  rw [hV] at hiv
  have o1 : okI V = true := okI_iff.2 ⟨by omega, by omega⟩
  have o2 : okI (-V) = true := okI_iff.2 ⟨by omega, by omega⟩
  have w1 : IntKind.i64.wrap (-V) = -V := i64w (by omega) (by omega)
  have w2 : IntKind.i64.wrap (V + 1) = V + 1 := i64w (by omega) (by omega)
  have hV2 : V + 1 = ((i + 1 : Nat) : Int) + 2 := by omega
  have wk : ∀ j : Nat, j < 10 → IntKind.i64.wrap ((K : Int) + (j : Int)) = (K : Int) + (j : Int) := fun j hj => i64w (by omega) (by omega)
  have k1 : IntKind.i64.wrap ((K : Int) + 1) = (K : Int) + 1 := wk 1 (by omega)
  have k2 : IntKind.i64.wrap ((K : Int) + 2) = (K : Int) + 2 := wk 2 (by omega)
  have k3 : IntKind.i64.wrap ((K : Int) + 3) = (K : Int) + 3 := wk 3 (by omega)
  have k4 : IntKind.i64.wrap ((K : Int) + 4) = (K : Int) + 4 := wk 4 (by omega)
  have k5 : IntKind.i64.wrap ((K : Int) + 5) = (K : Int) + 5 := wk 5 (by omega)
  have k6 : IntKind.i64.wrap ((K : Int) + 6) = (K : Int) + 6 := wk 6 (by omega)
  have k7 : IntKind.i64.wrap ((K : Int) + 7) = (K : Int) + 7 := wk 7 (by omega)
  have HW := Lib.hid (And.intro k2 (And.intro k3 (And.intro k4 (And.intro k5 (And.intro k6 k7)))))
  clear wk k2 k3 k4 k5 k6 k7
  have cap : ∀ j : Nat, j < 10 → (K + j) * 40 ≤ 140737488355328 := fun j hj => by omega
  have cap2 := cap 2 (by omega)
  have hpm : (P.map ndR).length = K := by rw [List.length_map, hpl]
  have HN := Lib.hid hnx
  have HKn := Lib.hid hKn
  have HV2 := Lib.hid hV2
  have Hy1 := Lib.hid hy1
  have Hm1 := Lib.hid hm1
  have HK := Lib.hid hK
  clear hnx hV hKn hV2 hy1 hm1 cap hK hpm
  refine amStr (h := ?_)
  refine amReg PT161_ok (h := ?_)
  refine amStr (h := ?_)
  (focus ((with_reducible refine sp_cond (b := ?_) ?_ (fun hc => ?_) (fun hc => ?_)); rotate_left; (focus (first | rfl | (simp [lk, AS.ev]; rfl))); all_goals (try simp at hc)))
  · have hii : i < v := by omega
    clear hc hiv
    refine amStr (h := ?_)
    refine amReg PT161_ok (h := ?_)
    refine amStr (h := ?_)
    refine amDrw PT161_ok (h := ?_)
    refine amStr (h := ?_)
    refine s_weak (τ := ⟨82, [(0, .v (.int .i64 ((v : Int) + 1))), (2, .ptr 0 0 0), (3, .ptr 5 0 0), (4, .v (.int .i64 (y : Int))), (5, .v (.int .i64 (m : Int))), (6, .v (.int .i64 V)), (7, .v (.int .i64 (K : Int)))], [(0, ⟨24, 2, [[.v (.int .i64 0), .v (.slice none 0 0)]]⟩), (50, ⟨57, 3, (addK P V y m K 0).map ndR⟩), (5, ⟨24, 2, [[.v (.int .i64 128), .ref 50 0 (K + 2)]]⟩)], [50, 5, 0]⟩) ?_ ?_
    · (refine weak_of (fun q => if q = 50 then 59 else q) ⟨rfl, ?_, ?_, ?_⟩ <;> ((try simp only [List.mem_cons, List.not_mem_nil, or_false, forall_eq_or_imp, forall_eq]); (try simp (disch := omega) [lk, AV.ids, idsL, idsLL, AV.ren, renL, renLL, i64w, *])))
      all_goals simp [addK, ndR]
    clear cap2
    have cj1 : ∀ j, j ≤ 4 → (K + 2 + j + 1) * 40 ≤ 140737488355328 := fun j hj => by
      clear k1 w1 w2
      omega
    have cj2 : ∀ j : Nat, j ≤ 4 → ((j : Int) < 4 ↔ j < 4) := fun j hj => by
      clear k1 w1 w2 cj1
      omega
    have cj3 : ∀ j : Nat, j ≤ 4 → IntKind.i64.wrap ((j : Int) + 1) = (j : Int) + 1 := fun j hj => i64w (by clear k1 w1 w2 cj1 cj2; omega) (by clear k1 w1 w2 cj1 cj2; omega)
    have cj := fun (j : Nat) (hj : j ≤ 4) => And.intro (cj1 j hj) (And.intro (cj3 j hj) (cj2 j hj))
    clear cj1 cj2 cj3
    have CJ := Lib.hid cj
    clear cj
    have AL := Lib.hid (fun j (hj : j ≤ 4) => addK_len (V := V) (y := y) (m := m) hj hpl)
    have ASX := Lib.hid (fun j (hj : j < 4) => addK_succ (P := P) (V := V) (y := y) (m := m) (K := K) hj)
    clear hpl
    refine amStr (h := ?_)
    refine amReg PT161_ok (h := ?_)
    refine amStr (h := ?_)
    refine s_frz (fun q => q == 54 || q == 57 || q == 60 || q == 64) ?_
    (refine s_eq (τ := ?_) ?_ ?_; rotate_left; (focus ((try simp only [AS.frz, List.map_cons, List.map_nil]); (try simp [frzV, frzO, frzC, List.filter]); rfl)))
    refine s_frz (fun q => q == 65) ?_
    (refine s_eq (τ := ?_) ?_ ?_; rotate_left; (focus ((try simp only [AS.frz, List.map_cons, List.map_nil]); (try simp [frzV, frzO, frzC, List.filter]); rfl)))
    refine s_loop (J := fun i : {j : Nat // j ≤ 4} => ⟨82, [(0, .v (.int .i64 ((v : Int) + 1))), (2, .ptr 0 0 0), (3, .ptr 5 0 0), (6, .v (.int .i64 V)), (7, .v (.int .i64 (K : Int))), (46, aRows (prL y m K)), (47, .v (.int .i64 4)), (48, .v (.int .i64 (i.1 : Int)))], [(0, ⟨24, 2, [[.v (.int .i64 0), .v (.slice none 0 0)]]⟩), (50, ⟨57, 3, (addK P V y m K i.1).map ndR⟩), (5, ⟨24, 2, [[.v (.int .i64 128), .ref 50 0 (K + 2 + i.1)]]⟩)], [50, 5, 0]⟩) (μ := fun i => 4 - i.1) ⟨0, Nat.zero_le _⟩ ?_ (fun ⟨j, hj⟩ => ?_)
    · (refine weak_id rfl ?_ ?_ <;> ((try simp only [List.mem_cons, List.not_mem_nil, or_false, forall_eq_or_imp, forall_eq]); (try simp (disch := omega) [i64w, *])))
      all_goals rfl
    dsimp only
    have al2 := AL.out j hj
    have hrl : (prL y m K).length = 4 := rfl
    obtain ⟨ck, wj, hj4⟩ := CJ.out j hj
    clear k1 w1 w2
    generalize hg : addK P V y m K j = A at al2 ⊢
    refine amStr (h := ?_)
    refine amReg PT161_ok (h := ?_)
    refine amStr (h := ?_)
    (focus ((with_reducible refine sp_cond (b := ?_) ?_ (fun hc => ?_) (fun hc => ?_)); rotate_left; (focus (first | rfl | (simp [lk, AS.ev]; rfl))); all_goals (try simp at hc)))
    · have hjj : j < 4 := by omega
      have hji : (j : Int) < 4 := hj4.2 hjj
      clear hc hj4
      have as2 := ASX.out j hjj
      rw [hg] at as2
      clear hg
      obtain ⟨C, hC⟩ : ∃ C, (prL y m K).getD j [] = C := ⟨_, rfl⟩
      rw [hC] at as2
      refine amStr (h := ?_)
      refine amReg PT161_ok (h := ?_)
      refine amStr (h := ?_)
      refine amReg PT161_ok (h := ?_)
      refine amStr (h := ?_)
      refine amReg PT161_ok (h := ?_)
      refine k_lp (⟨j + 1, hjj⟩ : {j : Nat // j ≤ 4}) (by first | omega | (dsimp only; omega)) ?_
      (refine weak_of (fun q => if q = 50 then 56 else q) ⟨rfl, ?_, ?_, ?_⟩ <;> ((try simp only [List.mem_cons, List.not_mem_nil, or_false, forall_eq_or_imp, forall_eq]); (try simp (disch := omega) [lk, AV.ids, idsL, idsLL, AV.ren, renL, renLL, i64w, *])))
      exact ⟨rfl, Nat.add_assoc _ _ _⟩
    · obtain rfl : j = 4 := by omega
      clear hc
      obtain ⟨k2, k3, k4, k5, k6, k7⟩ := HW.out
      have cap3 : (K + 2 + 4 + 2) * 40 ≤ 140737488355328 := by clear ck; omega
      clear ck wj hj4
      refine amStr (h := ?_)
      refine s_regionL ?_
      ((iterate 6 (((with_reducible refine spl_step TT_ok PT161_ok (id := 0) (σ' := ?_) ?_ ?_); rotate_left; (focus (simp [*]; rfl))))))
      (((with_reducible refine spl_step TT_ok PT161_ok (id := 57) (σ' := ?_) ?_ ?_); rotate_left; (focus (simp [*]; rfl))))
      refine spl_frz (fun q => q == 57) ?_
      (refine spl_eq (τ := ?_) ?_ ?_; rotate_left; (focus ((try simp only [AS.frz, List.map_cons, List.map_nil]); (try simp [frzV, frzO, frzC, List.filter]); rfl)))
      ((iterate 5 (((with_reducible refine spl_step TT_ok PT161_ok (id := 0) (σ' := ?_) ?_ ?_); rotate_left; (focus (simp [*]; rfl))))))
      (((with_reducible refine spl_step TT_ok PT161_ok (id := 63) (σ' := ?_) ?_ ?_); rotate_left; (focus (simp [*]; rfl))))
      refine spl_frz (fun q => q == 63) ?_
      (refine spl_eq (τ := ?_) ?_ ?_; rotate_left; (focus ((try simp only [AS.frz, List.map_cons, List.map_nil]); (try simp [frzV, frzO, frzC, List.filter]); rfl)))
      ((iterate 1 (((with_reducible refine spl_step TT_ok PT161_ok (id := 0) (σ' := ?_) ?_ ?_); rotate_left; (focus (simp [*]; rfl))))))
      (((with_reducible refine spl_step TT_ok PT161_ok (id := 65) (σ' := ?_) ?_ ?_); rotate_left; (focus (simp [*]; rfl))))
      (((with_reducible refine spl_step TT_ok PT161_ok (id := 66) (σ' := ?_) ?_ ?_); rotate_left; (focus (simp [*]; rfl))))
      ((iterate 2 (((with_reducible refine spl_step TT_ok PT161_ok (id := 0) (σ' := ?_) ?_ ?_); rotate_left; (focus (simp [*]; rfl))))))
      refine spl_nil ?_
      refine amStr (h := ?_)
      refine amReg PT161_ok (h := ?_)
      refine amStr (h := ?_)
      have w2 : IntKind.i64.wrap (V + 1) = V + 1 := i64w (by have := HV2.out; omega) (by have := HV2.out; omega)
      refine amReg PT161_ok (h := ?_)
      refine k_lp (⟨i + 1, hii⟩ : {i : Nat // i ≤ v}) (by first | omega | (dsimp only; omega)) ?_
      clear w2 cap3 k2 k3 k4 k5 k6 k7
      have hKn := HKn.out
      have hy1 := Hy1.out
      have hm1 := Hm1.out
      have hV2 := HV2.out
      have hnx := HN.out
      (refine weak_of (fun q => if q = 50 then 66 else q) ⟨rfl, ?_, ?_, ?_⟩ <;> ((try simp only [List.mem_cons, List.not_mem_nil, or_false, forall_eq_or_imp, forall_eq]); (try simp (disch := omega) [lk, AV.ids, idsL, idsLL, AV.ren, renL, renLL, i64w, *])))
      rw [← hg]
      simp [addK, blkN, ndR, prL, aInts]
  · obtain rfl : i = v := by omega
    clear hc hiv
    have hPe := HPe.out
    rw [hPe]
    clear hPe
    have hti : List.take K (List.map ndR P) = List.map (fun x => [AV.v (.int .i64 x.1), .v (.int .i64 x.2.1), aInts x.2.2]) P := List.take_of_length_le (by rw [List.length_map, hpl]; exact Nat.le_refl _)
    refine amStr (h := ?_)
    refine amReg PT161_ok (h := ?_)
    refine amStr (h := ?_)
    ((refine post_ret (av := ?_) (by first | exact .inl rfl | exact .inr rfl) (show (Tryd.f35).results.toList = _ from by rw [Tryd.results35]) ?_ ?_); rotate_left; (focus (simp [retA, retL, ret1, lk, st, ldA, AV.cell]; rfl)); (try simp [*]))
def par20 (n : Int) : Bool := decide (1 ≤ n) && decide (n ≤ 20)
def parI (n : Int) : List Nd := parN (n - 1).toNat
theorem parity_p2 (n : Int) (hk : par20 n = true) : FnPure Tryd.prog 35 [.v (.int .i64 n)] (aNet 128 (parI n)) := by
  unfold par20 at hk
  simp only [Bool.and_eq_true, decide_eq_true_eq] at hk
  have h := parity_p (n - 1).toNat (by omega)
  rwa [show (((n - 1).toNat : Nat) : Int) + 1 = n by omega] at h
@[simp] def g_parity : List AV → Option (AV × Bool)
  | [.v (.int .i64 n)] => if (okI n && par20 n) = true then some (.agg [.v (.int .i64 128), .sl 3 ((parI n).map fun x => [AV.v (.int .i64 x.1), .v (.int .i64 x.2.1), aInts x.2.2])], false) else none
  | _ => none
theorem e_parity : EntOk Tryd.prog 35 g_parity := ent_pure (by kernel_rfl) fun args r fr h => by
  unfold g_parity at h
  split at h
  · rename_i n
    split at h
    · rename_i hc
      simp only [Bool.and_eq_true] at hc
      obtain ⟨o0, hk⟩ := hc
      cases h
      exact ⟨FnPure.cov (parity_p2 n hk) (.cons (Cov.refl _) .nil), rfl⟩
    · cases h
  · cases h

def l162 : List (FuncId × (List AV → Option (AV × Bool))) :=
  (35, g_parity) :: l161
theorem l162_ok : ∀ p ∈ l162, EntOk Tryd.prog p.1 p.2 := ent_cons e_parity (l161_ok)
def PT162 : PTab := tab l162
theorem PT162_ok : PTok Tryd.prog PT162 := tab_ok l162_ok
@[simp] theorem PT162_litVar : PT162 85 = g_litVar := rfl
@[simp] theorem PT162_litValid : PT162 110 = g_litValid := rfl
@[simp] theorem PT162_with : PT162 26 = g_with := rfl
@[simp] theorem PT162_without : PT162 25 = g_without := rfl
@[simp] theorem PT162_all : PT162 29 = g_all := rfl
@[simp] theorem PT162_place : PT162 54 = g_place := rfl
@[simp] theorem PT162_vHas : PT162 36 = g_vHas := rfl
@[simp] theorem PT162_vMinus : PT162 31 = g_vMinus := rfl
@[simp] theorem PT162_vCut : PT162 22 = g_vCut := rfl
@[simp] theorem PT162_vUnion : PT162 21 = g_vUnion := rfl
@[simp] theorem PT162_vSub : PT162 72 = g_vSub := rfl
@[simp] theorem PT162_litHolds : PT162 56 = g_litHolds := rfl
@[simp] theorem PT162_nFormed : PT162 84 = g_nFormed := rfl
@[simp] theorem PT162_nCheck : PT162 55 = g_nCheck := rfl
@[simp] theorem PT162_r4Var : PT162 97 = g_r4Var := rfl
@[simp] theorem PT162_r4Valid : PT162 96 = g_r4Valid := rfl
@[simp] theorem PT162_rFormed : PT162 69 = g_rFormed := rfl
@[simp] theorem PT162_rValid20 : PT162 40 = g_rValid20 := rfl
@[simp] theorem PT162_r3Has : PT162 83 = g_r3Has := rfl
@[simp] theorem PT162_r3List : PT162 70 = g_r3List := rfl
@[simp] theorem PT162_r3Len : PT162 41 = g_r3Len := rfl
@[simp] theorem PT162_light39 : PT162 39 = g_light39 := rfl
@[simp] theorem PT162_r20Vars : PT162 71 = g_r20Vars := rfl
@[simp] theorem PT162_r39Mat : PT162 42 = g_r39Mat := rfl
@[simp] theorem PT162_few39 : PT162 12 = g_few39 := rfl
@[simp] theorem PT162_vOf : PT162 23 = g_vOf := rfl
@[simp] theorem PT162_nVars : PT162 91 = g_nVars := rfl
@[simp] theorem PT162_tIndex : PT162 53 = g_tIndex := rfl
@[simp] theorem PT162_tTerm : PT162 45 = g_tTerm := rfl
@[simp] theorem PT162_tChg : PT162 44 = g_tChg := rfl
@[simp] theorem PT162_vList : PT162 92 = g_vList := rfl
@[simp] theorem PT162_tTabled : PT162 62 = g_tTabled := rfl
@[simp] theorem PT162_tOpen : PT162 43 = g_tOpen := rfl
@[simp] theorem PT162_tBiased : PT162 20 = g_tBiased := rfl
@[simp] theorem PT162_works39 : PT162 13 = g_works39 := rfl
@[simp] theorem PT162_tReasons : PT162 14 = g_tReasons := rfl
@[simp] theorem PT162_tNecess : PT162 16 = g_tNecess := rfl
@[simp] theorem PT162_nEval : PT162 27 = g_nEval := rfl
@[simp] theorem PT162_tPositive : PT162 24 = g_tPositive := rfl
@[simp] theorem PT162_tWithin : PT162 28 = g_tWithin := rfl
@[simp] theorem PT162_tHolds : PT162 30 = g_tHolds := rfl
@[simp] theorem PT162_r3Same : PT162 19 = g_r3Same := rfl
@[simp] theorem PT162_revB : PT162 94 = g_revB := rfl
@[simp] theorem PT162_rev : PT162 63 = g_rev := rfl
@[simp] theorem PT162_negB : PT162 65 = g_negB := rfl
@[simp] theorem PT162_tBias : PT162 33 = g_tBias := rfl
@[simp] theorem PT162_lit39 : PT162 67 = g_lit39 := rfl
@[simp] theorem PT162_parity : PT162 35 = g_parity := rfl
end Go.Proofs.YtecdhmiamlgibaaDoor
