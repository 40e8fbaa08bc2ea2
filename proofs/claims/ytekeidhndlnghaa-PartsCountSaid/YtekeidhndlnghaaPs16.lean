/- parts.Split on the abstract machine; no condition. -/
import Derived.Test.YtekeidhndlnghaaPq16
import Derived.Test.YtekeidhndlnghaaWa
import Derived.Test.YtekeidhndlnghaaNil
namespace Go.Proofs.Ytekeidhndlnghaa
set_option linter.unusedVariables false
set_option linter.unusedSimpArgs false
set_option linter.unusedSectionVars false
open Go.RowKit
attribute [local simp] List.getD_cons_zero List.getD_cons_succ List.getD_nil undef gvars runL runE effA stepA dstOk wantA core lk st dl AS.ev AS.evs AS.put AS.upd updO updI nxt cPick cAlloc cBox cBuild cBuildS cLoad cStore cNil plainOf cBin cNilS isNilS nilA cUn cConvX cConvB cConv bytesOf rowB cMake cSlice slA idxA cFA cF cIA cIX cIS cI cExt cLen cApp cMM cFun cCall lenA lenM isNilM nilM cNilM cMakeM hintB cMapK cLook foundR lookR cUpd putM cDel delM findA isKeyB Instr.sameNow AS.entry AS.bound AS.callee sc1 sc2 ixOk ldA AV.flat AV.cell AV.cells Value.oneCell' fillA spl chunk zeros AS.parts AS.rows AS.shut AS.shut1 AS.shut2 AS.shutL AS.shutM AV.ids idsL idsLL eqAll bndA AV.scalar AV.scalar1 AV.isV Ef.app Ef.pk ptOf pntO wrO wr
attribute [-simp] List.getD_eq_getElem?_getD
set_option maxRecDepth 100000
theorem aSet_eq (s : BitVec 128) : aSet s = .agg [.v (.int .u64 ((lo s).toNat : Int)), .v (.int .u64 ((hi s).toNat : Int))] := rfl
theorem ids_parts : ∀ l : List PrtL, idsLL (l.map partRow) = []
  | [] => rfl
  | p :: l => by simp only [List.map_cons, idsLL, partRow, idsL, AV.ids, ids_parts l, aInts]; rw [show idsLL (p.2.map fun x => [AV.v (.int .i64 x)]) = [] from ids_ints _]; rfl
theorem ren_parts (ρ : Nat → Nat) (l : List PrtL) : renLL ρ (l.map partRow) = l.map partRow := renLL_pure _ _ (ids_parts l)
theorem renLL_appendP (ρ : Nat → Nat) : ∀ xs ys : List (List AV), renLL ρ (xs ++ ys) = renLL ρ xs ++ renLL ρ ys
  | [], ys => by simp [renLL]
  | x :: xs, ys => by simp only [List.cons_append, renLL, renLL_appendP ρ xs ys]
theorem partRow0 (i : Int) : partRow (0#128, [i]) = [.v (.int .u64 0), .v (.int .u64 0), aInts [i]] := by
  show [AV.v (.int .u64 ((lo 0#128).toNat : Int)), AV.v (.int .u64 ((hi 0#128).toNat : Int)), aInts [i]] = _
  rw [show lo 0#128 = 0#64 from by decide, show hi 0#128 = 0#64 from by decide]; rfl
theorem frz_part (σ : AS) (D : Nat → Bool) (p : PrtL) : (partRow p).map (frzC σ D) = partRow p := by
  unfold partRow aInts; simp [frzC]
theorem first_mem (N : Int) (L : List (List Int)) (ts : List Int) : ∀ k, ∀ i ∈ (pState N L ts k).first, ∃ n : Nat, i = (n : Int) ∧ n < k ∧ leftL (L.getD n []) ts = true ∧ restL (L.getD n []) ts ≠ []
  | 0, i, h => by cases h
  | k + 1, i, h => by
    have ih := first_mem N L ts k
    rw [pState_succ] at h
    by_cases hl : leftL (L.getD k []) ts = true
    · by_cases hr : restL (L.getD k []) ts = []
      · rw [pStep_nil hl hr] at h
        obtain ⟨n, h1, h2, h3⟩ := ih i h
        exact ⟨n, h1, by omega, h3⟩
      · rw [pStep_cons hl hr] at h
        rcases List.mem_append.1 h with h | h
        · obtain ⟨n, h1, h2, h3⟩ := ih i h
          exact ⟨n, h1, by omega, h3⟩
        · exact ⟨k, by simpa using h, by omega, hl, hr⟩
    · rw [pStep_no (by simpa using hl)] at h
      obtain ⟨n, h1, h2, h3⟩ := ih i h
      exact ⟨n, h1, by omega, h3⟩
theorem s_drawQ {P : Program} {B : Base} {σ : AS} {Q : Exit → AS → Prop} {TT : TTab} {PT : PTab} (q : Nat) {id : Nat} {l : List Oper} {es : List Ef} {σ' : AS} (hP : P.follows .mixedOrders = true) (hTT : TTok P TT) (hPT : PTok P PT) (h : runE TT PT l.toArray l q σ = some (σ', es)) (hok : ordOk l es = true) (k : Q .normal σ') : SP P B (.region id l.toArray true) σ Q :=
  s_drawG (ops := l.toArray) hP (eff := effA TT PT l.toArray) (fun D id σ o e h => effA_eff hTT hPT h) (q := q) (by rw [← runE_runG]; exact h) hok k
theorem s_cut {P : Program} {B : Base} {x y : Code} {σ : AS} {Q : Exit → AS → Prop} (S : AS) (h : SP P B x σ (fun e τ => e = .normal ∧ ∀ c Q', SP P B c S Q' → SP P B c τ Q')) (k : SP P B y S Q) : SP P B (.seq x y) σ Q :=
  s_seq (sp_mono h fun e τ h => by obtain ⟨rfl, h⟩ := h; exact h y Q k)
theorem neA {k j : Nat} (h : k < 1000) : (k = 1000 + j) = False := eq_false (by omega)
theorem neB {k j : Nat} (h : k < 20000) : (k = 20000 + j) = False := eq_false (by omega)
theorem neA' {k j : Nat} (h : k < 1000) : (1000 + j = k) = False := eq_false (by omega)
theorem neB' {k j : Nat} (h : k < 20000) : (20000 + j = k) = False := eq_false (by omega)
theorem eqOA {i j : Nat} : (1000 + i = 1000 + j) = (i = j) := propext ⟨fun h => by omega, fun h => by omega⟩
theorem eqOB {i j : Nat} : (20000 + i = 20000 + j) = (i = j) := propext ⟨fun h => by omega, fun h => by omega⟩
attribute [local simp] neA neB neA' neB' eqOA eqOB fmI_lt lk_fams_lt
attribute [local simp] frz_part partRow0 AV.ren renL lk_st lk_dl renLL_appendP aSet_eq ids_parts ren_parts
set_option maxHeartbeats 4000000 in
theorem split_walk (N : Int) (L : List (List Int)) (ts xs : List Int) (hN : okI N = true) (hL : okRows L = true) (ht : okInts ts = true) (hx : okInts xs = true) (hxl : okL xs = true) (hck : chkL N L ts = some xs) (hz : checkT N L = 0) : FnPure Try.prog 12 [aTh N L, aInts ts] (.tup [aParts (splitP N L xs), aSet (splitF N L xs), .v (.int .i64 0)]) := by
  have hca : chkA N L ts = .tup [aInts xs, .v (.int .i64 0)] := by unfold chkA; rw [hck]
  have hxn := okInts_len hx
  obtain ⟨n0, n1, l4, hl3⟩ := checkT_ok hz
  unfold aTh
  refine fn_sp TT_ok Try.func12 (c := _) rfl (by simp [Try.ntmps12]) (fun B hI0 hro => ?_)
  rw [Try.ntmps12]
  simp only [enumA]
  refine amStr (h := ?_)
  refine amReg PT86_ok (h := ?_)
  refine amStr (h := ?_)
  refine amReg PT86_ok (h := ?_)
  refine amStr (h := ?_)
  refine amReg PT86_ok (h := ?_)
  refine amStr (h := ?_)
  refine s_regionL ?_
  (((with_reducible refine spl_step TT_ok PT86_ok (id := 7) (σ' := ?_) ?_ ?_); rotate_left; (focus (simp [*]; rfl))))
  refine spl_nil ?_
  refine amStr (h := ?_)
  refine s_regionL ?_
  (((with_reducible refine spl_step TT_ok PT86_ok (id := 8) (σ' := ?_) ?_ ?_); rotate_left; (focus (simp [*]; rfl))))
  refine spl_nil ?_
  refine amStr (h := ?_)
  refine s_regionL ?_
  ((iterate 2 (((with_reducible refine spl_step TT_ok PT86_ok (id := 0) (σ' := ?_) ?_ ?_); rotate_left; (focus (simp [*]; rfl))))))
  refine spl_nil ?_
  refine amStr (h := ?_)
  refine s_regionL ?_
  ((iterate 4 (((with_reducible refine spl_step TT_ok PT86_ok (id := 0) (σ' := ?_) ?_ ?_); rotate_left; (focus (simp [*]; rfl))))))
  refine spl_nil ?_
  refine amStr (h := ?_)
  refine amReg PT86_ok (h := ?_)
  refine amStr (h := ?_)
  have hu0 := uRow_start
  refine s_loop (J := fun k : {k : Nat // k ≤ xs.length} => ⟨203, [(4, .v (.slice none 0 0)), (1, aInts xs), (2, .ptr 0 0 0), (5, .ptr 2 0 0), (6, .v (.int .i64 0)), (7, .ptr 7 0 0), (8, .ptr 8 0 0), (44, aInts xs), (45, .v (.int .i64 (xs.length : Int))), (46, .v (.int .i64 (k.1 : Int)))], [(7, ⟨59, 129, [uRow (List.replicate 129 0)]⟩), (0, ⟨24, 2, [[.v (.int .i64 N), aRows L]]⟩), (2, ⟨31, 2, [[.v (.int .u64 ((lo (lessV (sAll N) (xs.take k.1))).toNat : Int)), .v (.int .u64 ((hi (lessV (sAll N) (xs.take k.1))).toNat : Int))]]⟩), (8, ⟨60, 1, [[.clo 28 [.ptr 7 0 0, .ptr 8 0 0]]]⟩)], [8, 7, 2, 0]⟩) (μ := fun k => xs.length - k.1) ⟨0, Nat.zero_le _⟩ ?_ (fun ⟨k, hk⟩ => ?_)
  · have hl0 : lessV (sAll N) [] = sAll N := rfl
    (refine weak_id rfl ?_ ?_ <;> ((try simp only [List.mem_cons, List.not_mem_nil, or_false, forall_eq_or_imp, forall_eq]); (try simp (disch := omega) [i64w, *])))
    exact hu0.symm
  clear hu0
  refine amGo PT86_ok (h := ?_)
  (focus ((with_reducible refine sp_cond (b := ?_) ?_ (fun hc => ?_) (fun hc => ?_)); rotate_left; (focus (first | rfl | (simp [lk, AS.ev]; rfl))); all_goals (try simp at hc)))
  · have hkk := hc
    clear hc
    have hls := lessV_succ (sAll N) hkk
    have hr := okL_iff.1 hxl _ (getD_memI hkk)
    obtain ⟨x, hxe⟩ : ∃ x, xs.getD k 0 = x := ⟨_, rfl⟩
    rw [hxe] at hls hr
    have hok : okI x = true := okI_iff.2 ⟨by omega, by omega⟩
    have hvr := litVar_range x
    have hokv : okI (litVar x) = true := okI_iff.2 ⟨by omega, by omega⟩
    refine amGo PT86_ok (h := ?_)
    refine k_lp (⟨k + 1, by omega⟩ : {k : Nat // k ≤ xs.length}) (by dsimp only; omega) ?_
    (refine weak_id rfl ?_ ?_ <;> ((try simp only [List.mem_cons, List.not_mem_nil, or_false, forall_eq_or_imp, forall_eq]); (try simp (disch := omega) [i64w, *])))
  · obtain rfl : xs.length = k := by omega
    clear hc
    have hps : pState N L xs 0 = pStart N xs := rfl
    have hfr : lessV (sAll N) (xs.take xs.length) = (pStart N xs).free := by rw [List.take_length]; rfl
    rw [hfr]
    refine amStr (h := ?_)
    refine s_regionL ?_
    (((with_reducible refine spl_step TT_ok PT86_ok (id := 55) (σ' := ?_) ?_ ?_); rotate_left; (focus (simp [*]; rfl))))
    ((iterate 1 (((with_reducible refine spl_step TT_ok PT86_ok (id := 0) (σ' := ?_) ?_ ?_); rotate_left; (focus (simp [*]; rfl))))))
    refine spl_nil ?_
    refine amStr (h := ?_)
    refine amReg PT86_ok (h := ?_)
    refine amStr (h := ?_)
    refine s_nil 4 60 44 3 (by simp [lk]) (by simp) ?_
    simp only [st]
    refine s_nil 12 61 3 1 (by simp [lk]) (by simp) ?_
    simp only [st]
    refine amReg PT86_ok (h := ?_)
    refine amStr (h := ?_)
    refine s_loop (J := fun i : {p : Nat × List Nat // p.1 ≤ L.length ∧ Uf p.2 (pState N L xs p.1).r} => ⟨203, [(4, .ref 60 0 (pState N L xs i.1.1).out.length), (1, aInts xs), (2, .ptr 0 0 0), (5, .ptr 2 0 0), (6, .v (.int .i64 0)), (7, .ptr 7 0 0), (8, .ptr 8 0 0), (11, .mp 55), (12, .ref 61 0 (pState N L xs i.1.1).first.length), (57, aRows L), (58, .v (.int .i64 (L.length : Int))), (59, .v (.int .i64 (i.1.1 : Int)))], [(7, ⟨59, 129, [uRow (i.1.2)]⟩), (0, ⟨24, 2, [[.v (.int .i64 N), aRows L]]⟩), (2, ⟨31, 2, [[.v (.int .u64 ((lo ((pState N L xs i.1.1).free)).toNat : Int)), .v (.int .u64 ((hi ((pState N L xs i.1.1).free)).toNat : Int))]]⟩), (8, ⟨60, 1, [[.clo 28 [.ptr 7 0 0, .ptr 8 0 0]]]⟩), (60, ⟨44, 3, ((pState N L xs i.1.1).out).map partRow⟩), (61, ⟨3, 1, ((pState N L xs i.1.1).first).map fun x => [.v (.int .i64 x)]⟩), (55, ⟨63, 0, []⟩)], [60, 61, 55, 8, 7, 2, 0]⟩) (μ := fun i => L.length - i.1.1) ⟨(0, List.replicate 129 0), Nat.zero_le _, Uf.start⟩ ?_ (fun ⟨⟨i, u⟩, hil, hu⟩ => ?_)
    · have ho0 : (pStart N xs).out = [] := rfl
      have hf0 : (pStart N xs).first = [] := rfl
      (refine weak_id rfl ?_ ?_ <;> ((try simp only [List.mem_cons, List.not_mem_nil, or_false, forall_eq_or_imp, forall_eq]); (try simp (disch := omega) [i64w, *])))
    dsimp only at hil hu
    have hpl := pState_len N L xs i
    have hps2 := pState_succ N L xs i
    obtain ⟨out, heo⟩ : ∃ out, (pState N L xs i).out = out := ⟨_, rfl⟩
    obtain ⟨fi, hef⟩ : ∃ fi, (pState N L xs i).first = fi := ⟨_, rfl⟩
    obtain ⟨free, heg⟩ : ∃ free, (pState N L xs i).free = free := ⟨_, rfl⟩
    obtain ⟨r, her⟩ : ∃ r, (pState N L xs i).r = r := ⟨_, rfl⟩
    have hur : Uf u r := her ▸ hu
    rw [heo, hef] at hpl
    rw [heo, hef, heg]
    have c1 : (out.length + 1) * 40 ≤ 140737488355328 := by omega
    have c2 : (fi.length + 1) * 8 ≤ 140737488355328 := by omega
    have hwi : IntKind.i64.wrap ((i : Int) + 1) = (i : Int) + 1 := i64s i (by omega)
    refine amGo PT86_ok (h := ?_)
    (focus ((with_reducible refine sp_cond (b := ?_) ?_ (fun hc => ?_) (fun hc => ?_)); rotate_left; (focus (first | rfl | (simp [lk, AS.ev]; rfl))); all_goals (try simp at hc)))
    · have hii := hc
      clear hc
      have hci := okRows_at hL i
      have hlc := hl3 _ (getD_memL hii)
      have hokc : okL (L.getD i []) = true := okL_iff.2 fun y hy => by have := litOk_range (hlc.2 y hy); omega
      cases hlf : leftL (L.getD i []) xs
      · have hrA : restA (L.getD i []) xs = .tup [.v (.slice none 0 0), .v (.bool false)] := by unfold restA; rw [hlf]; rfl
        rw [pStep_no hlf] at hps2
        refine amGo PT86_ok (h := ?_)
        refine k_lp (⟨(i + 1, u), by dsimp only; omega, by dsimp only; rw [hps2]; exact hu⟩ : {p : Nat × List Nat // p.1 ≤ L.length ∧ Uf p.2 (pState N L xs p.1).r}) (by dsimp only; omega) ?_
        (refine weak_id rfl ?_ ?_ <;> ((try simp only [List.mem_cons, List.not_mem_nil, or_false, forall_eq_or_imp, forall_eq]); (try simp (disch := omega) [i64w, *])))
      · have hrA : restA (L.getD i []) xs = .tup [aInts (restL (L.getD i []) xs), .v (.bool true)] := by unfold restA; rw [if_pos hlf]
        have hlen := restL_len (L.getD i []) xs
        by_cases hre : restL (L.getD i []) xs = []
        · rw [pStep_nil hlf hre] at hps2
          have eo2 : (pState N L xs (i + 1)).out = out ++ [(0#128, [(i : Int)])] := by rw [hps2, ← heo]
          have ef2 : (pState N L xs (i + 1)).first = fi := by rw [hps2, ← hef]
          have eg2 : (pState N L xs (i + 1)).free = free := by rw [hps2, ← heg]
          have er2 : (pState N L xs (i + 1)).r = r := by rw [hps2, ← her]
          clear hps2
          rw [hre] at hrA
          refine amStr (h := ?_)
          refine amReg PT86_ok (h := ?_)
          refine amStr (h := ?_)
          refine amReg PT86_ok (h := ?_)
          refine amStr (h := ?_)
          refine amReg PT86_ok (h := ?_)
          refine amStr (h := ?_)
          refine amReg PT86_ok (h := ?_)
          refine amStr (h := ?_)
          refine amReg PT86_ok (h := ?_)
          refine amStr (h := ?_)
          refine s_frz (fun q => q == 64) ?_
          (refine s_eq (τ := ?_) ?_ ?_; rotate_left; (focus ((try simp only [AS.frz, List.map_cons, List.map_nil]); (try simp [frzV, frzO, frzC, List.filter]); rfl)))
          refine amGo PT86_ok (h := ?_)
          refine k_lp (⟨(i + 1, u), by dsimp only; omega, by dsimp only; rw [er2]; exact hur⟩ : {p : Nat × List Nat // p.1 ≤ L.length ∧ Uf p.2 (pState N L xs p.1).r}) (by dsimp only; omega) ?_
          (refine weak_of (fun q => if q = 60 then 67 else q) ⟨rfl, ?_, ?_, ?_⟩ <;> ((try simp only [List.mem_cons, List.not_mem_nil, or_false, forall_eq_or_imp, forall_eq]); (try simp (disch := omega) [lk, AV.ids, idsL, idsLL, AV.ren, renL, renLL, i64w, *])))
          rfl
        · rw [pStep_cons hlf hre] at hps2
          obtain ⟨left, hle⟩ : ∃ left, restL (L.getD i []) xs = left := ⟨_, rfl⟩
          have hll : left.length ≤ 128 := by rw [← hle]; have := hlc.1; omega
          have hlit : ∀ y ∈ left, litOk y N = true := fun y hy => by rw [← hle] at hy; exact hlc.2 y (List.mem_filter.1 hy).1
          rw [hle] at hrA hps2 hre
          have hl0 : 0 < left.length := List.length_pos_iff.2 hre
          have eo2 : (pState N L xs (i + 1)).out = out := by rw [hps2, ← heo]
          have ef2 : (pState N L xs (i + 1)).first = fi ++ [(i : Int)] := by rw [hps2, ← hef]
          have eg2 : (pState N L xs (i + 1)).free = lessV free left := by rw [hps2, ← heg]
          have er2 : (pState N L xs (i + 1)).r = joinAll (left.getD 0 0) r left := by rw [hps2, ← her]
          clear hps2 hle
          have hlne : ((left.length : Int) == 0) = false := by rw [beq_eq_false_iff_ne]; omega
          refine amGo PT86_ok (h := ?_)
          obtain ⟨fi2, hfi2⟩ : ∃ fi2, fi ++ [(i : Int)] = fi2 := ⟨_, rfl⟩
          rw [hfi2] at ef2
          refine s_loop (J := fun j : {p : Nat × List Nat // p.1 ≤ left.length ∧ Uf p.2 (joinAll (left.getD 0 0) r (left.take p.1))} => ⟨203, [(4, .ref 60 0 out.length), (1, aInts xs), (2, .ptr 0 0 0), (5, .ptr 2 0 0), (6, .v (.int .i64 0)), (7, .ptr 7 0 0), (8, .ptr 8 0 0), (11, .mp 55), (12, .ref 61 0 fi2.length), (57, aRows L), (58, .v (.int .i64 (L.length : Int))), (59, .v (.int .i64 (i : Int))), (15, aInts left), (85, aInts left), (86, .v (.int .i64 (left.length : Int))), (87, .v (.int .i64 (j.1.1 : Int)))], [(7, ⟨59, 129, [uRow (j.1.2)]⟩), (0, ⟨24, 2, [[.v (.int .i64 N), aRows L]]⟩), (2, ⟨31, 2, [[.v (.int .u64 ((lo (lessV free (left.take j.1.1))).toNat : Int)), .v (.int .u64 ((hi (lessV free (left.take j.1.1))).toNat : Int))]]⟩), (8, ⟨60, 1, [[.clo 28 [.ptr 7 0 0, .ptr 8 0 0]]]⟩), (60, ⟨44, 3, (out).map partRow⟩), (61, ⟨3, 1, (fi2).map fun x => [.v (.int .i64 x)]⟩), (55, ⟨63, 0, []⟩)], [60, 61, 55, 8, 7, 2, 0]⟩) (μ := fun j => left.length - j.1.1) ⟨(0, u), Nat.zero_le _, hur⟩ ?_ (fun ⟨⟨j, u1⟩, hj, hu1⟩ => ?_)
          · have hl00 : lessV free [] = free := rfl
            have hfl : fi2.length = fi.length + 1 := by rw [← hfi2]; simp
            (refine weak_of (fun q => if q = 61 then 65 else q) ⟨rfl, ?_, ?_, ?_⟩ <;> ((try simp only [List.mem_cons, List.not_mem_nil, or_false, forall_eq_or_imp, forall_eq]); (try simp (disch := omega) [lk, AV.ids, idsL, idsLL, AV.ren, renL, renLL, i64w, *])))
            rw [← hfi2]; simp
          dsimp only at hj hu1
          obtain ⟨rj, hrj⟩ : ∃ rj, joinAll (left.getD 0 0) r (left.take j) = rj := ⟨_, rfl⟩
          have hurj : Uf u1 rj := hrj ▸ hu1
          have hwj : IntKind.i64.wrap ((j : Int) + 1) = (j : Int) + 1 := i64s j (by omega)
          refine amGo PT86_ok (h := ?_)
          (focus ((with_reducible refine sp_cond (b := ?_) ?_ (fun hc => ?_) (fun hc => ?_)); rotate_left; (focus (first | rfl | (simp [lk, AS.ev]; rfl))); all_goals (try simp at hc)))
          · have hjj := hc
            clear hc
            have hls := lessV_succ free hjj
            have hjs := joinAll_succ (left.getD 0 0) r hjj
            rw [hrj] at hjs
            have hx0 := hlit _ (getD_memI hl0)
            have hxj := hlit _ (getD_memI hjj)
            obtain ⟨x0, hx0e⟩ : ∃ x0, left.getD 0 0 = x0 := ⟨_, rfl⟩
            obtain ⟨x, hxe⟩ : ∃ x, left.getD j 0 = x := ⟨_, rfl⟩
            rw [hx0e] at hx0 hjs
            rw [hxe] at hls hxj hjs
            have hv0 := litVar_range x0
            have hvj := litVar_range x
            have hr0 := litOk_range hx0
            have hrx := litOk_range hxj
            have hok0 : okI x0 = true := okI_iff.2 ⟨by omega, by omega⟩
            have hokx : okI x = true := okI_iff.2 ⟨by omega, by omega⟩
            have hokv0 : okI (litVar x0) = true := okI_iff.2 ⟨by omega, by omega⟩
            have hokvx : okI (litVar x) = true := okI_iff.2 ⟨by omega, by omega⟩
            have hp0 : 1 ≤ litVar x0 := by unfold litOk at hx0; simp only [Bool.and_eq_true, decide_eq_true_eq] at hx0; omega
            have hpx : 1 ≤ litVar x := by unfold litOk at hxj; simp only [Bool.and_eq_true, decide_eq_true_eq] at hxj; omega
            obtain ⟨v0, hv0e⟩ : ∃ v0 : Nat, litVar x0 = (v0 : Int) := ⟨(litVar x0).toNat, by omega⟩
            obtain ⟨vx, hvxe⟩ : ∃ vx : Nat, litVar x = (vx : Int) := ⟨(litVar x).toNat, by omega⟩
            rw [hv0e] at hjs hv0 hokv0 hp0
            rw [hvxe] at hjs hvj hokvx hpx
            simp only [Int.toNat_natCast] at hjs
            have hv0' : v0 < 129 := by omega
            have hvx' : vx < 129 := by omega
            refine amStr (h := ?_)
            refine amReg PT86_ok (h := ?_)
            refine amStr (h := ?_)
            refine amDrw PT86_ok (h := ?_)
            refine amStr (h := ?_)
            refine s_drawW3 (k0 := 7) (mk := upO) (Inv := fun u => Uf u rj) (X0 := u1) (es := ?es) (n' := ?n1) (slots' := ?s1) (objs' := ?b1) (ids' := ?i1) (σ0 := ?s0) (σ1 := ?s2) (o0 := ?o0) (o1 := ?o1) (e0 := ⟨some 100, .v (.int .i64 (rj v0 : Int)), [], [95, 99], [7, 8], none⟩) (e1 := ⟨some 104, .v (.int .i64 (rj vx : Int)), [], [101, 103], [7, 8], none⟩) (q := 90) prog_mixed TT_ok PT86_ok ?he0 ?he1 hurj ?hrun ?hok ?kk
            case hrun =>
              (((with_reducible refine runW_cons (e := ?_) (σ1 := ?_) (es := ?_) ?_ ?_ ?_ ?_ ?_ ?_); rotate_left 5; (focus (simp [*]; exact Eq.refl _)); (focus (simp; exact Eq.refl _)); (focus (first | rfl | decide | (simp [fpA, fpF, isFn, fpo, topIds, lightS, light, Op.operands, Call.operands, Ef.keys, Ef.pk]; try decide)))))
              (((with_reducible refine runW_cons (e := ?_) (σ1 := ?_) (es := ?_) ?_ ?_ ?_ ?_ ?_ ?_); rotate_left 5; (focus (simp [*]; exact Eq.refl _)); (focus (simp; exact Eq.refl _)); (focus (first | rfl | decide | (simp [fpA, fpF, isFn, fpo, topIds, lightS, light, Op.operands, Call.operands, Ef.keys, Ef.pk]; try decide)))))
              (((with_reducible refine runW_cons (e := ?_) (σ1 := ?_) (es := ?_) ?_ ?_ ?_ ?_ ?_ ?_); rotate_left 5; (focus (simp [*]; exact Eq.refl _)); (focus (simp; exact Eq.refl _)); (focus (first | rfl | decide | (simp [fpA, fpF, isFn, fpo, topIds, lightS, light, Op.operands, Call.operands, Ef.keys, Ef.pk]; try decide)))))
              (((with_reducible refine runW_cons (e := ?_) (σ1 := ?_) (es := ?_) ?_ ?_ ?_ ?_ ?_ ?_); rotate_left 5; (focus (simp [*]; exact Eq.refl _)); (focus (simp; exact Eq.refl _)); (focus (first | rfl | decide | (simp [fpA, fpF, isFn, fpo, topIds, lightS, light, Op.operands, Call.operands, Ef.keys, Ef.pk]; try decide)))))
              (((with_reducible refine runW_cons (e := ?_) (σ1 := ?_) (es := ?_) ?_ ?_ ?_ ?_ ?_ ?_); rotate_left 5; (focus (simp [*]; exact Eq.refl _)); (focus (simp; exact Eq.refl _)); (focus (first | rfl | decide | (simp [fpA, fpF, isFn, fpo, topIds, lightS, light, Op.operands, Call.operands, Ef.keys, Ef.pk]; try decide)))))
              refine runW_call (es := ?_) (σ1 := ?_) ?_ ?_
              rotate_left 2
              · simp; exact Eq.refl _
              (((with_reducible refine runW_cons (e := ?_) (σ1 := ?_) (es := ?_) ?_ ?_ ?_ ?_ ?_ ?_); rotate_left 5; (focus (simp [*]; exact Eq.refl _)); (focus (simp; exact Eq.refl _)); (focus (first | rfl | decide | (simp [fpA, fpF, isFn, fpo, topIds, lightS, light, Op.operands, Call.operands, Ef.keys, Ef.pk]; try decide)))))
              (((with_reducible refine runW_cons (e := ?_) (σ1 := ?_) (es := ?_) ?_ ?_ ?_ ?_ ?_ ?_); rotate_left 5; (focus (simp [*]; exact Eq.refl _)); (focus (simp; exact Eq.refl _)); (focus (first | rfl | decide | (simp [fpA, fpF, isFn, fpo, topIds, lightS, light, Op.operands, Call.operands, Ef.keys, Ef.pk]; try decide)))))
              (((with_reducible refine runW_cons (e := ?_) (σ1 := ?_) (es := ?_) ?_ ?_ ?_ ?_ ?_ ?_); rotate_left 5; (focus (simp [*]; exact Eq.refl _)); (focus (simp; exact Eq.refl _)); (focus (first | rfl | decide | (simp [fpA, fpF, isFn, fpo, topIds, lightS, light, Op.operands, Call.operands, Ef.keys, Ef.pk]; try decide)))))
              refine runW_call2 (es := ?_) (σ1 := ?_) ?_ ?_ ?_
              rotate_left 2
              · decide
              · simp; exact Eq.refl _
              (((with_reducible refine runW_cons (e := ?_) (σ1 := ?_) (es := ?_) ?_ ?_ ?_ ?_ ?_ ?_); rotate_left 5; (focus (simp [*]; exact Eq.refl _)); (focus (simp; exact Eq.refl _)); (focus (first | rfl | decide | (simp [fpA, fpF, isFn, fpo, topIds, lightS, light, Op.operands, Call.operands, Ef.keys, Ef.pk]; try decide)))))
              (((with_reducible refine runW_cons (e := ?_) (σ1 := ?_) (es := ?_) ?_ ?_ ?_ ?_ ?_ ?_); rotate_left 5; (focus (simp [*]; exact Eq.refl _)); (focus (simp; exact Eq.refl _)); (focus (first | rfl | decide | (simp [fpA, fpF, isFn, fpo, topIds, lightS, light, Op.operands, Call.operands, Ef.keys, Ef.pk]; try decide)))))
              exact runX_nil
              all_goals decide
            case he0 =>
              intro D
              refine top_eff (B := B.d D) rj (v := v0) (by omega) hv0' rfl ?_ ?_ ?_ ?_ ?_ ?_ ?_
              all_goals first | rfl | simp
            case he1 =>
              intro D
              refine top_eff (B := B.d D) rj (v := vx) (by omega) hvx' rfl ?_ ?_ ?_ ?_ ?_ ?_ ?_
              all_goals first | rfl | simp
            case hok => kernel_rfl
            case kk =>
            intro u2 hu2
            unfold upO
            have ha1 := hurj.pos v0 (by omega) hv0'
            have ha2 := hurj.le v0 hv0'
            have ha3 := hurj.idem v0 hv0'
            have hb1 := hurj.pos vx (by omega) hvx'
            have hb2 := hurj.le vx hvx'
            have hb3 := hurj.idem vx hvx'
            obtain ⟨a, hae⟩ : ∃ a, rj v0 = a := ⟨_, rfl⟩
            obtain ⟨b, hbe⟩ : ∃ b, rj vx = b := ⟨_, rfl⟩
            rw [hae] at ha1 ha2 ha3 hjs
            rw [hbe] at hb1 hb2 hb3 hjs
            rw [hae, hbe]
            by_cases hab : a = b
            · rw [if_pos hab] at hjs
              have hn : ((a : Int) != (b : Int)) = false := by simp [hab]
              refine amGo PT86_ok (h := ?_)
              refine k_lp (⟨(j + 1, u2), by dsimp only; omega, by dsimp only; rw [hx0e, hjs]; exact hu2⟩ : {p : Nat × List Nat // p.1 ≤ left.length ∧ Uf p.2 (joinAll (left.getD 0 0) r (left.take p.1))}) (by dsimp only; omega) ?_
              (refine weak_id rfl ?_ ?_ <;> ((try simp only [List.mem_cons, List.not_mem_nil, or_false, forall_eq_or_imp, forall_eq]); (try simp (disch := omega) [i64w, *])))
            · rw [if_neg hab] at hjs
              have hn : ((a : Int) != (b : Int)) = true := by simp; omega
              have hj2 := hu2.join (x := a) (y := b) (by omega) (by omega) ha1 hb1 ha3.2 hb3.2 hab
              have hul2 := hu2.len
              by_cases hlt : a < b
              · have hmx : max a b = b := by omega
                have hmn : min a b = a := by omega
                rw [hmx, hmn] at hj2
                have hwr := u_spl hul2 (v := b) (x := a) (by omega)
                simp only [spl, List.append_assoc, List.singleton_append, List.length_cons, List.length_nil, Nat.zero_add] at hwr
                have hiv : (b : Int) < 129 := by omega
                have hb128 : b < 129 := by omega
                have hb128' : b ≤ 128 := by omega
                have hb128'' : b + 1 ≤ 129 := by omega
                have hab2 : a < b := by omega
                have hab3 : ¬ b < a := by omega
                refine amGo PT86_ok (h := ?_)
                refine k_lp (⟨(j + 1, u2.set b a), by dsimp only; omega, by dsimp only; rw [hx0e, hjs]; exact hj2⟩ : {p : Nat × List Nat // p.1 ≤ left.length ∧ Uf p.2 (joinAll (left.getD 0 0) r (left.take p.1))}) (by dsimp only; omega) ?_
                (refine weak_id rfl ?_ ?_ <;> ((try simp only [List.mem_cons, List.not_mem_nil, or_false, forall_eq_or_imp, forall_eq]); (try simp (disch := omega) [i64w, *])))
              · have hmx : max a b = a := by omega
                have hmn : min a b = b := by omega
                rw [hmx, hmn] at hj2
                have hwr := u_spl hul2 (v := a) (x := b) (by omega)
                simp only [spl, List.append_assoc, List.singleton_append, List.length_cons, List.length_nil, Nat.zero_add] at hwr
                have hiv : (a : Int) < 129 := by omega
                have hb128 : a < 129 := by omega
                have hb128' : a ≤ 128 := by omega
                have hb128'' : a + 1 ≤ 129 := by omega
                have hab2 : b < a := by omega
                have hab3 : ¬ a < b := by omega
                refine amGo PT86_ok (h := ?_)
                refine k_lp (⟨(j + 1, u2.set a b), by dsimp only; omega, by dsimp only; rw [hx0e, hjs]; exact hj2⟩ : {p : Nat × List Nat // p.1 ≤ left.length ∧ Uf p.2 (joinAll (left.getD 0 0) r (left.take p.1))}) (by dsimp only; omega) ?_
                (refine weak_id rfl ?_ ?_ <;> ((try simp only [List.mem_cons, List.not_mem_nil, or_false, forall_eq_or_imp, forall_eq]); (try simp (disch := omega) [i64w, *])))
          · obtain rfl : left.length = j := by omega
            clear hc
            rw [List.take_length] at hrj
            refine amGo PT86_ok (h := ?_)
            refine k_lp (⟨(i + 1, u1), by dsimp only; omega, by dsimp only; rw [er2, hrj]; exact hurj⟩ : {p : Nat × List Nat // p.1 ≤ L.length ∧ Uf p.2 (pState N L xs p.1).r}) (by dsimp only; omega) ?_
            (refine weak_id rfl ?_ ?_ <;> ((try simp only [List.mem_cons, List.not_mem_nil, or_false, forall_eq_or_imp, forall_eq]); (try simp (disch := omega) [i64w, *])))
    · obtain rfl : L.length = i := by omega
      clear hc hwi c1 c2
      have hfm := first_mem N L xs L.length
      rw [hef] at hfm
      have hres : Ok1 ((pState N L xs L.length).out = out ∧ (pState N L xs L.length).first = fi ∧ (pState N L xs L.length).free = free ∧ (pState N L xs L.length).r = r) := ⟨⟨heo, hef, heg, her⟩⟩
      clear hps2 her heo hef heg
      refine amStr (h := ?_)
      refine amReg PT86_ok (h := ?_)
      refine amStr (h := ?_)
      refine s_loop (J := fun k : {k : Nat × List Nat // k.1 ≤ fi.length ∧ Uf k.2 r ∧ KInv k.1 (kState r L xs fi k.1)} => ⟨203, [(4, .ref 60 0 out.length), (1, aInts xs), (2, .ptr 0 0 0), (5, .ptr 2 0 0), (6, .v (.int .i64 0)), (7, .ptr 7 0 0), (8, .ptr 8 0 0), (11, .mp 55), (117, .ref 61 0 fi.length), (118, .v (.int .i64 (fi.length : Int))), (119, .v (.int .i64 (k.1.1 : Int)))], [(7, ⟨59, 129, [uRow k.1.2]⟩), (0, ⟨24, 2, [[.v (.int .i64 N), aRows L]]⟩), (2, ⟨31, 2, [[.v (.int .u64 ((lo free).toNat : Int)), .v (.int .u64 ((hi free).toNat : Int))]]⟩), (8, ⟨60, 1, [[.clo 28 [.ptr 7 0 0, .ptr 8 0 0]]]⟩), (60, ⟨44, 3, out.map partRow⟩), (61, ⟨3, 1, fi.map fun x => [.v (.int .i64 x)]⟩), (55, ⟨63, 0, mapR (kState r L xs fi k.1.1).1⟩)] ++ fams (kState r L xs fi k.1.1).1 (kState r L xs fi k.1.1).2, [60, 61, 55, 8, 7, 2, 0] ++ fmI (kState r L xs fi k.1.1).1⟩) (μ := fun k => fi.length - k.1.1) ⟨(0, u), Nat.zero_le _, hur, KInv.start⟩ ?_ (fun ⟨⟨k, u1⟩, hkl, hu1, hki⟩ => ?_)
      · have hks0 := kState_zero r L xs fi
        have hm0 : mapR [] = [] := rfl
        refine weak_same ?_ rfl ?_ ?_ ?_ ?_
        rotate_right 2
        · intro j hj; cases hj
        · intro j hj; cases hj
        all_goals ((try simp only [List.mem_cons, List.not_mem_nil, or_false, forall_eq_or_imp, forall_eq]); (try simp (disch := omega) [lk, lk_st, lk_dl, lk_cl, lk_pt, lk_fams_lt, AV.ids, idsL, idsLL, AV.ren, renL, renLL, rho2_lt, rho2_id, rho2_1, rho2_2, lk_famH_lt, ren_mapR, i64w, *]))
      dsimp only at hkl hu1 hki
      have hks := fun h => kState_succ r L xs (fi := fi) (k := k) h
      obtain ⟨K, G, hKG⟩ : ∃ K G, kState r L xs fi k = (K, G) := ⟨_, _, rfl⟩
      rw [hKG] at hki hks
      refine s_eq (τ := ?_) ?_ ?_
      rotate_left
      · simp only [hKG]; rfl
      have hKc := hki.card
      dsimp only at hKc
      have hwk : IntKind.i64.wrap ((k : Int) + 1) = (k : Int) + 1 := i64s k (by omega)
      have c2 : fi.length * 8 ≤ 140737488355328 := by omega
      refine amStr (h := ?_)
      refine amReg PT86_ok (h := ?_)
      refine amStr (h := ?_)
      (focus ((with_reducible refine sp_cond (b := ?_) ?_ (fun hc => ?_) (fun hc => ?_)); rotate_left; (focus (first | rfl | (simp [lk, AS.ev]; rfl))); all_goals (try simp at hc)))
      · have hk9 := hc
        clear hc
        obtain ⟨m, hme, hml, hlf, hre⟩ := hfm _ (getD_memI hk9)
        have hks2 := hks hk9
        have hfe : (fi.map fun x => [AV.v (.int .i64 x)]).getD k [] = [AV.v (.int .i64 (m : Int))] := by rw [← hme]; simp [List.getD, hk9]
        clear hks
        rw [hme] at hks2
        have hci := okRows_at hL m
        have hlc := hl3 _ (getD_memL hml)
        have hokc : okL (L.getD m []) = true := okL_iff.2 fun y hy => by have := litOk_range (hlc.2 y hy); omega
        have hlen := restL_len (L.getD m []) xs
        obtain ⟨left, hle⟩ : ∃ left, restL (L.getD m []) xs = left := ⟨_, rfl⟩
        have hrA : restA (L.getD m []) xs = .tup [aInts left, .v (.bool true)] := by unfold restA; rw [if_pos hlf, hle]
        have hll : left.length ≤ 128 := by rw [← hle]; have := hlc.1; omega
        have hlit : ∀ y ∈ left, litOk y N = true := fun y hy => by rw [← hle] at hy; exact hlc.2 y (List.mem_filter.1 hy).1
        have hkeyE : keyV r L xs (m : Int) = r (litVar (left.getD 0 0)).toNat := by unfold keyV; rw [Int.toNat_natCast, hle]
        have hstE : kStep r L xs (K, G) (m : Int) = (ensK K (keyV r L xs (m : Int)), upG G (keyV r L xs (m : Int)) (addV (G (keyV r L xs (m : Int))).1 left, (G (keyV r L xs (m : Int))).2 ++ [(m : Int)])) := by unfold kStep; rw [Int.toNat_natCast, hle]
        rw [hle] at hre
        clear hle hlf
        have hlit0 := hlit
        have hl0 : 0 < left.length := List.length_pos_iff.2 hre
        have hx0 := hlit _ (getD_memI hl0)
        obtain ⟨x0, hx0e⟩ : ∃ x0, left.getD 0 0 = x0 := ⟨_, rfl⟩
        rw [hx0e] at hx0 hkeyE
        have hv0 := litVar_range x0
        have hr0 := litOk_range hx0
        have hok0 : okI x0 = true := okI_iff.2 ⟨by omega, by omega⟩
        have hokv0 : okI (litVar x0) = true := okI_iff.2 ⟨by omega, by omega⟩
        have hp0 : 1 ≤ litVar x0 := by unfold litOk at hx0; simp only [Bool.and_eq_true, decide_eq_true_eq] at hx0; omega
        obtain ⟨v0, hv0e⟩ : ∃ v0 : Nat, litVar x0 = (v0 : Int) := ⟨(litVar x0).toNat, by omega⟩
        rw [hv0e] at hkeyE hv0 hokv0 hp0
        simp only [Int.toNat_natCast] at hkeyE
        have hv0' : v0 < 129 := by omega
        rw [hkeyE] at hstE
        have hkst := hki.step (r := r) (L := L) (ts := xs) (i := (m : Int)) (by rw [hkeyE]; exact hu1.pos v0 (by omega) hv0') (by rw [hkeyE]; have := hu1.le v0 hv0'; omega)
        rw [hstE] at hkst hks2
        have ha1 := hu1.pos v0 (by omega) hv0'
        have ha2 := hu1.le v0 hv0'
        clear hkeyE hstE hlit hlc hlen
        obtain ⟨v, hve⟩ : ∃ v, r v0 = v := ⟨_, rfl⟩
        rw [hve] at hkst hks2 ha1 ha2
        refine amStr (h := ?_)
        refine amReg PT86_ok (h := ?_)
        refine amStr (h := ?_)
        refine amReg PT86_ok (h := ?_)
        refine amStr (h := ?_)
        refine s_drawW3 (k0 := 7) (mk := upO) (Inv := fun u => Uf u r) (X0 := u1) (es := ?zes) (n' := ?zn1) (slots' := ?zs1) (objs' := ?zb1) (ids' := ?zi1) (σ0 := ?zs0) (σ1 := ?zs0) (o0 := ?zo0) (o1 := ?zo0) (e0 := ⟨some 138, .v (.int .i64 (r v0 : Int)), [], [133, 137], [7, 8], none⟩) (e1 := ⟨some 138, .v (.int .i64 (r v0 : Int)), [], [133, 137], [7, 8], none⟩) (q := 90) prog_mixed TT_ok PT86_ok ?zhe0 ?zhe1 hu1 ?zhrun ?zhok ?zkk
        case zhrun =>
          (((with_reducible refine runW_cons (e := ?_) (σ1 := ?_) (es := ?_) ?_ ?_ ?_ ?_ ?_ ?_); rotate_left 5; (focus (simp [*]; exact Eq.refl _)); (focus (simp; exact Eq.refl _)); (focus (first | rfl | decide | (simp [fpA, fpF, isFn, fpo, topIds, lightS, light, Op.operands, Call.operands, Ef.keys, Ef.pk]; try decide)))))
          (((with_reducible refine runW_cons (e := ?_) (σ1 := ?_) (es := ?_) ?_ ?_ ?_ ?_ ?_ ?_); rotate_left 5; (focus (simp [*]; exact Eq.refl _)); (focus (simp; exact Eq.refl _)); (focus (first | rfl | decide | (simp [fpA, fpF, isFn, fpo, topIds, lightS, light, Op.operands, Call.operands, Ef.keys, Ef.pk]; try decide)))))
          (((with_reducible refine runW_cons (e := ?_) (σ1 := ?_) (es := ?_) ?_ ?_ ?_ ?_ ?_ ?_); rotate_left 5; (focus (simp [*]; exact Eq.refl _)); (focus (simp; exact Eq.refl _)); (focus (first | rfl | decide | (simp [fpA, fpF, isFn, fpo, topIds, lightS, light, Op.operands, Call.operands, Ef.keys, Ef.pk]; try decide)))))
          (((with_reducible refine runW_cons (e := ?_) (σ1 := ?_) (es := ?_) ?_ ?_ ?_ ?_ ?_ ?_); rotate_left 5; (focus (simp [*]; exact Eq.refl _)); (focus (simp; exact Eq.refl _)); (focus (first | rfl | decide | (simp [fpA, fpF, isFn, fpo, topIds, lightS, light, Op.operands, Call.operands, Ef.keys, Ef.pk]; try decide)))))
          (((with_reducible refine runW_cons (e := ?_) (σ1 := ?_) (es := ?_) ?_ ?_ ?_ ?_ ?_ ?_); rotate_left 5; (focus (simp [*]; exact Eq.refl _)); (focus (simp; exact Eq.refl _)); (focus (first | rfl | decide | (simp [fpA, fpF, isFn, fpo, topIds, lightS, light, Op.operands, Call.operands, Ef.keys, Ef.pk]; try decide)))))
          refine runW_call (es := ?_) (σ1 := ?_) ?_ ?_
          rotate_left 2
          · simp; exact Eq.refl _
          (((with_reducible refine runW_cons (e := ?_) (σ1 := ?_) (es := ?_) ?_ ?_ ?_ ?_ ?_ ?_); rotate_left 5; (focus (simp [*]; exact Eq.refl _)); (focus (simp; exact Eq.refl _)); (focus (first | rfl | decide | (simp [fpA, fpF, isFn, fpo, topIds, lightS, light, Op.operands, Call.operands, Ef.keys, Ef.pk]; try decide)))))
          exact runX_nil
          all_goals decide
        case zhe0 =>
          intro D
          refine top_eff (B := B.d D) r (v := v0) (by omega) hv0' rfl ?_ ?_ ?_ ?_ ?_ ?_ ?_
          all_goals first | rfl | simp
        case zhe1 =>
          intro D
          refine top_eff (B := B.d D) r (v := v0) (by omega) hv0' rfl ?_ ?_ ?_ ?_ ?_ ?_ ?_
          all_goals first | rfl | simp
        case zhok => kernel_rfl
        case zkk =>
        intro u2 hu2
        unfold upO
        rw [hve]
        have hokv : okI (v : Int) = true := okI_iff.2 ⟨by omega, by omega⟩
        have hfa := findA_keys K (fun j => .ptr (20000 + j) 0 0) v 0
        rw [show keyRows K (fun j => .ptr (20000 + j) 0 0) = mapR K from rfl, Nat.zero_add] at hfa
        have hmi := ids_mapR K
        refine k_seq ?_
        refine s_cut ⟨203, [(4, .ref 60 0 out.length), (1, aInts xs), (2, .ptr 0 0 0), (5, .ptr 2 0 0), (6, .v (.int .i64 0)), (7, .ptr 7 0 0), (8, .ptr 8 0 0), (11, .mp 55), (117, .ref 61 0 fi.length), (118, .v (.int .i64 (fi.length : Int))), (119, .v (.int .i64 (k : Int))), (22, .v (.int .i64 (m : Int))), (23, aInts left), (25, .v (.int .i64 (v : Int)))], [(7, ⟨59, 129, [uRow u2]⟩), (0, ⟨24, 2, [[.v (.int .i64 N), aRows L]]⟩), (2, ⟨31, 2, [[.v (.int .u64 ((lo free).toNat : Int)), .v (.int .u64 ((hi free).toNat : Int))]]⟩), (8, ⟨60, 1, [[.clo 28 [.ptr 7 0 0, .ptr 8 0 0]]]⟩), (60, ⟨44, 3, out.map partRow⟩), (61, ⟨3, 1, fi.map fun x => [.v (.int .i64 x)]⟩), (55, ⟨63, 0, mapR (ensK K v)⟩)] ++ fams (ensK K v) G, [60, 61, 55, 8, 7, 2, 0] ++ fmI (ensK K v)⟩ ?_ ?_
        · clear hks2 hkst
          by_cases hvK : v ∈ K
          · have hens : ensK K v = K := if_pos hvK
            rw [if_pos hvK] at hfa
            rw [hens]
            have hjK := idx_lt hvK
            have hkr : (mapR K).getD (K.idxOf v) [] = [.v (.int .i64 (v : Int)), .ptr (20000 + K.idxOf v) 0 0] := by unfold mapR; rw [keyRows_get hjK, idx_get hvK]
            clear hens
            refine amStr (h := ?_)
            refine amReg PT86_ok (h := ?_)
            refine amStr (h := ?_)
            refine ⟨rfl, fun c Q' k => ?_⟩
            refine s_weak _ ?_ k
            refine weak_same hKc rfl ?_ ?_ ?_ ?_
            rotate_right 2
            · intro j hj; have := lk_cl G hj; ((try simp only [List.mem_cons, List.not_mem_nil, or_false, forall_eq_or_imp, forall_eq]); (try simp (disch := omega) [lk, lk_st, lk_dl, lk_cl, lk_pt, lk_fams_lt, AV.ids, idsL, idsLL, AV.ren, renL, renLL, rho2_lt, rho2_id, rho2_1, rho2_2, lk_famH_lt, ren_mapR, i64w, *]))
            · intro j hj; have := lk_pt G hj hKc; ((try simp only [List.mem_cons, List.not_mem_nil, or_false, forall_eq_or_imp, forall_eq]); (try simp (disch := omega) [lk, lk_st, lk_dl, lk_cl, lk_pt, lk_fams_lt, AV.ids, idsL, idsLL, AV.ren, renL, renLL, rho2_lt, rho2_id, rho2_1, rho2_2, lk_famH_lt, ren_mapR, i64w, *]))
            all_goals ((try simp only [List.mem_cons, List.not_mem_nil, or_false, forall_eq_or_imp, forall_eq]); (try simp (disch := omega) [lk, lk_st, lk_dl, lk_cl, lk_pt, lk_fams_lt, AV.ids, idsL, idsLL, AV.ren, renL, renLL, rho2_lt, rho2_id, rho2_1, rho2_2, lk_famH_lt, ren_mapR, i64w, *]))
            exact fun q hq => .inr (hmi q hq)
          · have hens : ensK K v = K ++ [v] := if_neg hvK
            rw [if_neg hvK] at hfa
            rw [hens]
            clear hens
            refine amStr (h := ?_)
            refine amReg PT86_ok (h := ?_)
            refine amStr (h := ?_)
            refine s_regionL ?_
            ((iterate 3 (((with_reducible refine spl_step TT_ok PT86_ok (id := 0) (σ' := ?_) ?_ ?_); rotate_left; (focus (simp [*]; rfl))))))
            (((with_reducible refine spl_step TT_ok PT86_ok (id := 73) (σ' := ?_) ?_ ?_); rotate_left; (focus (simp [*]; rfl))))
            ((iterate 1 (((with_reducible refine spl_step TT_ok PT86_ok (id := 0) (σ' := ?_) ?_ ?_); rotate_left; (focus (simp [*]; rfl))))))
            refine spl_nil ?_
            refine ⟨rfl, fun c Q' k => ?_⟩
            have hGv := hki.out v hvK
            dsimp only at hGv
            have hK9 : K.length + 1 ≤ 129 := by
              have := nodup_len 129 (K ++ [v]) (by have := ensK_nodup v hki.nd; unfold ensK at this; rw [if_neg hvK] at this; exact this) (fun w hw => by
                rcases List.mem_append.1 hw with hw | hw
                · exact (hki.rg w hw).2
                · simp at hw; omega)
              simpa using this
            refine s_cnil 73 0 2 74 3 1 (by simp [lk, lk_st]; rfl) (by rfl) (by simp) ?_ (by decide)
            refine s_weak _ ?_ k
            refine weak_ext v 74 73 (by omega) (by omega) (by omega) hK9 hGv rfl ?_ ?_ ?_ ?_ ?_ ?_
            rotate_right 4
            · intro j hj; have := lk_cl G hj; ((try simp only [List.mem_cons, List.not_mem_nil, or_false, forall_eq_or_imp, forall_eq]); (try simp (disch := omega) [lk, lk_st, lk_dl, lk_cl, lk_pt, lk_fams_lt, AV.ids, idsL, idsLL, AV.ren, renL, renLL, rho2_lt, rho2_id, rho2_1, rho2_2, lk_famH_lt, ren_mapR, i64w, *]))
            · intro j hj; have := lk_pt G hj hKc; ((try simp only [List.mem_cons, List.not_mem_nil, or_false, forall_eq_or_imp, forall_eq]); (try simp (disch := omega) [lk, lk_st, lk_dl, lk_cl, lk_pt, lk_fams_lt, AV.ids, idsL, idsLL, AV.ren, renL, renLL, rho2_lt, rho2_id, rho2_1, rho2_2, lk_famH_lt, ren_mapR, i64w, *]))
            · ((try simp only [List.mem_cons, List.not_mem_nil, or_false, forall_eq_or_imp, forall_eq]); (try simp (disch := omega) [lk, lk_st, lk_dl, lk_cl, lk_pt, lk_fams_lt, AV.ids, idsL, idsLL, AV.ren, renL, renLL, rho2_lt, rho2_id, rho2_1, rho2_2, lk_famH_lt, ren_mapR, i64w, *]))
            · ((try simp only [List.mem_cons, List.not_mem_nil, or_false, forall_eq_or_imp, forall_eq]); (try simp (disch := omega) [lk, lk_st, lk_dl, lk_cl, lk_pt, lk_fams_lt, AV.ids, idsL, idsLL, AV.ren, renL, renLL, rho2_lt, rho2_id, rho2_1, rho2_2, lk_famH_lt, ren_mapR, i64w, *]))
            all_goals ((try simp only [List.mem_cons, List.not_mem_nil, or_false, forall_eq_or_imp, forall_eq]); (try simp (disch := omega) [lk, lk_st, lk_dl, lk_cl, lk_pt, lk_fams_lt, AV.ids, idsL, idsLL, AV.ren, renL, renLL, rho2_lt, rho2_id, rho2_1, rho2_2, lk_famH_lt, ren_mapR, i64w, *]))
            exact ⟨(ren_mapR_snoc hKc).symm, fun q hq => .inr (ids_mapR _ q hq)⟩
        · have hvm := ensK_mem K v
          have hKc1 : (ensK K v).length ≤ 129 := hkst.card
          have hnd : (ensK K v).Nodup := hkst.nd
          have hfa1 := findA_keys (ensK K v) (fun j => .ptr (20000 + j) 0 0) v 0
          rw [show keyRows (ensK K v) (fun j => .ptr (20000 + j) 0 0) = mapR (ensK K v) from rfl, Nat.zero_add, if_pos hvm] at hfa1
          clear hfa hmi hKc
          obtain ⟨K1, hK1⟩ : ∃ K1, ensK K v = K1 := ⟨_, rfl⟩
          rw [hK1] at hvm hKc1 hnd hfa1 hks2 hkst
          rw [hK1]
          have hjK := idx_lt hvm
          have hjg := idx_get hvm
          have hkr : (mapR K1).getD (K1.idxOf v) [] = [.v (.int .i64 (v : Int)), .ptr (20000 + K1.idxOf v) 0 0] := by unfold mapR; rw [keyRows_get hjK, idx_get hvm]
          have hjn := fun i (h : i < K1.length) (h2 : i ≠ K1.idxOf v) => idx_ne hnd h h2
          obtain ⟨j, hj⟩ : ∃ j, K1.idxOf v = j := ⟨_, rfl⟩
          rw [hj] at hjK hjg hkr hfa1 hjn
          have hlc := lk_cl G hjK
          have hlp := lk_pt G hjK hKc1
          rw [hjg] at hlc hlp
          rw [ptO_eq] at hlp
          have hGl := hki.len v
          dsimp only at hGl
          clear hK1 hki hKG
          obtain ⟨⟨sv, cl⟩, hGv⟩ : ∃ p, G v = p := ⟨_, rfl⟩
          rw [hGv] at hlc hlp hGl hks2 hkst
          have hlc2 : lk (fams K1 G) (1000 + j) = some ⟨3, 1, cl.map fun x => [.v (.int .i64 x)]⟩ := hlc
          dsimp only at hlp hGl hks2 hkst
          clear hlc
          have c3 : (cl.length + 1) * 8 ≤ 140737488355328 := by omega
          have hne1 : ¬ (1000 + j = 20000 + j) := by omega
          have hmi := ids_mapR K1
          have hj9 : j < 129 := by omega
          have hmo : renLL (rho2 62 (1000 + j) 63 (20000 + j)) (mapH K1 j) = mapR K1 := mapH_open (rho2_2 (by omega)) fun q hq => rho2_id (by omega) (by omega)
          have hms : ∀ b, renLL (rho2 62 b 63 63) (mapH K1 j) = mapH K1 j := fun b => mapH_same (rho2_2 (by omega)) fun q hq => rho2_id (by omega) (by omega)
          have hmi2 := ids_mapH K1 j
          have hfa2 := findA_keys K1 (fun i => if i = j then .ptr 63 0 0 else .ptr (20000 + i) 0 0) v 0
          have hkr2 : (mapH K1 j).getD j [] = [.v (.int .i64 (v : Int)), .ptr 63 0 0] := by unfold mapH; rw [keyRows_get hjK, hjg, if_pos rfl]
          rw [if_pos hvm, hj, Nat.zero_add] at hfa2
          change findA _ _ (mapH K1 j) 0 = _ at hfa2
          clear hj
          refine s_weak ⟨203, [(4, .ref 60 0 out.length), (1, aInts xs), (2, .ptr 0 0 0), (5, .ptr 2 0 0), (6, .v (.int .i64 0)), (7, .ptr 7 0 0), (8, .ptr 8 0 0), (11, .mp 55), (117, .ref 61 0 fi.length), (118, .v (.int .i64 (fi.length : Int))), (119, .v (.int .i64 (k : Int))), (22, .v (.int .i64 (m : Int))), (23, aInts left), (25, .v (.int .i64 (v : Int)))], [(7, ⟨59, 129, [uRow u2]⟩), (0, ⟨24, 2, [[.v (.int .i64 N), aRows L]]⟩), (2, ⟨31, 2, [[.v (.int .u64 ((lo free).toNat : Int)), .v (.int .u64 ((hi free).toNat : Int))]]⟩), (8, ⟨60, 1, [[.clo 28 [.ptr 7 0 0, .ptr 8 0 0]]]⟩), (60, ⟨44, 3, out.map partRow⟩), (61, ⟨3, 1, fi.map fun x => [.v (.int .i64 x)]⟩), (55, ⟨63, 0, mapH K1 j⟩), (62, ⟨3, 1, cl.map fun x => [.v (.int .i64 x)]⟩), (63, ⟨44, 3, [[.v (.int .u64 ((lo sv).toNat : Int)), .v (.int .u64 ((hi sv).toNat : Int)), .ref 62 0 cl.length]]⟩)] ++ famH K1 G j, [60, 61, 55, 8, 7, 2, 0, 62, 63] ++ fmI K1⟩ ?_ ?_
          · refine weak_H (rho2 62 (1000 + j) 63 (20000 + j)) (fun q hq => rho2_id (by omega) (by omega)) hKc1 rfl ?_ ?_ ?_ hjK ?_ ?_
            rotate_right 2
            · intro i hx hne; have := lk_cl G hx; ((try simp only [List.mem_cons, List.not_mem_nil, or_false, forall_eq_or_imp, forall_eq]); (try simp (disch := omega) [lk, lk_st, lk_dl, lk_cl, lk_pt, lk_fams_lt, AV.ids, idsL, idsLL, AV.ren, renL, renLL, rho2_lt, rho2_id, rho2_1, rho2_2, lk_famH_lt, ren_mapR, i64w, *]))
            · intro i hx hne; have := lk_pt G hx hKc1; ((try simp only [List.mem_cons, List.not_mem_nil, or_false, forall_eq_or_imp, forall_eq]); (try simp (disch := omega) [lk, lk_st, lk_dl, lk_cl, lk_pt, lk_fams_lt, AV.ids, idsL, idsLL, AV.ren, renL, renLL, rho2_lt, rho2_id, rho2_1, rho2_2, lk_famH_lt, ren_mapR, i64w, *]))
            all_goals ((try simp only [List.mem_cons, List.not_mem_nil, or_false, forall_eq_or_imp, forall_eq]); (try simp (disch := omega) [lk, lk_st, lk_dl, lk_cl, lk_pt, lk_fams_lt, AV.ids, idsL, idsLL, AV.ren, renL, renLL, rho2_lt, rho2_id, rho2_1, rho2_2, lk_famH_lt, ren_mapR, i64w, *]))
            exact fun q hq => by rcases hmi2 q hq with rfl | h; exact .inl (by simp); exact .inr h
          clear hfa1 hkr hmo hmi hlc2 hlp hne1
          refine amStr (h := ?_)
          (focus ((with_reducible refine s_drawQ 70 (es := ?_) (σ' := ?_) prog_mixed TT_ok PT86_ok ?_ ?_ ?_); rotate_left 2; (focus ((repeat (((with_reducible refine runE_cons (e := ?_) (σ1 := ?_) (es := ?_) ?_ ?_ ?_); rotate_left 3; (focus (simp [*]; exact Eq.refl _)); (focus (simp; exact Eq.refl _))))); (exact runE_nil))); (focus (first | kernel_rfl | decide))))
          refine amStr (h := ?_)
          refine amReg PT86_ok (h := ?_)
          refine amStr (h := ?_)
          obtain ⟨cl2, hcl2⟩ : ∃ cl2, cl ++ [(m : Int)] = cl2 := ⟨_, rfl⟩
          have hcm : cl2.map (fun x => [AV.v (.int .i64 x)]) = cl.map (fun x => [AV.v (.int .i64 x)]) ++ [[.v (.int .i64 (m : Int))]] := by rw [← hcl2]; simp
          have hcln : cl2.length = cl.length + 1 := by rw [← hcl2]; simp
          rw [hcl2] at hks2 hkst
          refine s_loop (J := fun e : {e : Nat // e ≤ left.length} => ⟨203, [(4, .ref 60 0 out.length), (1, aInts xs), (2, .ptr 0 0 0), (5, .ptr 2 0 0), (6, .v (.int .i64 0)), (7, .ptr 7 0 0), (8, .ptr 8 0 0), (11, .mp 55), (117, .ref 61 0 fi.length), (118, .v (.int .i64 (fi.length : Int))), (119, .v (.int .i64 (k : Int))), (22, .v (.int .i64 (m : Int))), (23, aInts left), (25, .v (.int .i64 (v : Int))), (161, aInts left), (162, .v (.int .i64 (left.length : Int))), (163, .v (.int .i64 (e.1 : Int)))], [(7, ⟨59, 129, [uRow u2]⟩), (0, ⟨24, 2, [[.v (.int .i64 N), aRows L]]⟩), (2, ⟨31, 2, [[.v (.int .u64 ((lo free).toNat : Int)), .v (.int .u64 ((hi free).toNat : Int))]]⟩), (8, ⟨60, 1, [[.clo 28 [.ptr 7 0 0, .ptr 8 0 0]]]⟩), (60, ⟨44, 3, out.map partRow⟩), (61, ⟨3, 1, fi.map fun x => [.v (.int .i64 x)]⟩), (55, ⟨63, 0, mapH K1 j⟩), (62, ⟨3, 1, cl2.map fun x => [.v (.int .i64 x)]⟩), (63, ⟨44, 3, [[.v (.int .u64 ((lo (addV sv (left.take e.1))).toNat : Int)), .v (.int .u64 ((hi (addV sv (left.take e.1))).toNat : Int)), .ref 62 0 cl2.length]]⟩)] ++ famH K1 G j, [60, 61, 55, 8, 7, 2, 0, 62, 63] ++ fmI K1⟩) (μ := fun e => left.length - e.1) ⟨0, Nat.zero_le _⟩ ?_ (fun ⟨e, hel⟩ => ?_)
          · have ha0 : addV sv [] = sv := rfl
            refine weak_H (rho2 62 81 63 63) (fun q hq => rho2_id (by omega) (by omega)) hKc1 rfl ?_ ?_ ?_ hjK ?_ ?_
            rotate_right 2
            · intro i hx hne; have := lk_famH_cl G hx hKc1 hne; ((try simp only [List.mem_cons, List.not_mem_nil, or_false, forall_eq_or_imp, forall_eq]); (try simp (disch := omega) [lk, lk_st, lk_dl, lk_cl, lk_pt, lk_fams_lt, AV.ids, idsL, idsLL, AV.ren, renL, renLL, rho2_lt, rho2_id, rho2_1, rho2_2, lk_famH_lt, ren_mapR, i64w, *]))
            · intro i hx hne; have := lk_famH_pt G hx hjK hKc1 hne; ((try simp only [List.mem_cons, List.not_mem_nil, or_false, forall_eq_or_imp, forall_eq]); (try simp (disch := omega) [lk, lk_st, lk_dl, lk_cl, lk_pt, lk_fams_lt, AV.ids, idsL, idsLL, AV.ren, renL, renLL, rho2_lt, rho2_id, rho2_1, rho2_2, lk_famH_lt, ren_mapR, i64w, *]))
            all_goals ((try simp only [List.mem_cons, List.not_mem_nil, or_false, forall_eq_or_imp, forall_eq]); (try simp (disch := omega) [lk, lk_st, lk_dl, lk_cl, lk_pt, lk_fams_lt, AV.ids, idsL, idsLL, AV.ren, renL, renLL, rho2_lt, rho2_id, rho2_1, rho2_2, lk_famH_lt, ren_mapR, i64w, *]))
            exact fun q hq => by rcases hmi2 q hq with rfl | h; exact .inl (by simp); exact .inr h
          have hwe : IntKind.i64.wrap ((e : Int) + 1) = (e : Int) + 1 := i64s e (by omega)
          refine amStr (h := ?_)
          refine amReg PT86_ok (h := ?_)
          refine amStr (h := ?_)
          (focus ((with_reducible refine sp_cond (b := ?_) ?_ (fun hc => ?_) (fun hc => ?_)); rotate_left; (focus (first | rfl | (simp [lk, AS.ev]; rfl))); all_goals (try simp at hc)))
          · have hee := hc
            clear hc
            have has := addV_succ sv hee
            have hxe0 := hlit0 _ (getD_memI hee)
            obtain ⟨x, hxe⟩ : ∃ x, left.getD e 0 = x := ⟨_, rfl⟩
            rw [hxe] at has hxe0
            have hrx := litOk_range hxe0
            have hvx := litVar_range x
            have hokx : okI x = true := okI_iff.2 ⟨by omega, by omega⟩
            have hokvx : okI (litVar x) = true := okI_iff.2 ⟨by omega, by omega⟩
            refine amStr (h := ?_)
            refine amReg PT86_ok (h := ?_)
            refine amStr (h := ?_)
            (focus ((with_reducible refine s_drawQ 70 (es := ?_) (σ' := ?_) prog_mixed TT_ok PT86_ok ?_ ?_ ?_); rotate_left 2; (focus ((repeat (((with_reducible refine runE_cons (e := ?_) (σ1 := ?_) (es := ?_) ?_ ?_ ?_); rotate_left 3; (focus (simp [*]; exact Eq.refl _)); (focus (simp; exact Eq.refl _))))); (exact runE_nil))); (focus (first | kernel_rfl | decide))))
            refine amStr (h := ?_)
            refine amReg PT86_ok (h := ?_)
            refine amStr (h := ?_)
            refine k_lp (⟨e + 1, by omega⟩ : {e : Nat // e ≤ left.length}) (by dsimp only; omega) ?_
            refine weak_H (rho2 62 62 63 63) (fun q hq => rho2_id (by omega) (by omega)) hKc1 rfl ?_ ?_ ?_ hjK ?_ ?_
            rotate_right 2
            · intro i hx hne; have := lk_famH_cl G hx hKc1 hne; ((try simp only [List.mem_cons, List.not_mem_nil, or_false, forall_eq_or_imp, forall_eq]); (try simp (disch := omega) [lk, lk_st, lk_dl, lk_cl, lk_pt, lk_fams_lt, AV.ids, idsL, idsLL, AV.ren, renL, renLL, rho2_lt, rho2_id, rho2_1, rho2_2, lk_famH_lt, ren_mapR, i64w, *]))
            · intro i hx hne; have := lk_famH_pt G hx hjK hKc1 hne; ((try simp only [List.mem_cons, List.not_mem_nil, or_false, forall_eq_or_imp, forall_eq]); (try simp (disch := omega) [lk, lk_st, lk_dl, lk_cl, lk_pt, lk_fams_lt, AV.ids, idsL, idsLL, AV.ren, renL, renLL, rho2_lt, rho2_id, rho2_1, rho2_2, lk_famH_lt, ren_mapR, i64w, *]))
            all_goals ((try simp only [List.mem_cons, List.not_mem_nil, or_false, forall_eq_or_imp, forall_eq]); (try simp (disch := omega) [lk, lk_st, lk_dl, lk_cl, lk_pt, lk_fams_lt, AV.ids, idsL, idsLL, AV.ren, renL, renLL, rho2_lt, rho2_id, rho2_1, rho2_2, lk_famH_lt, ren_mapR, i64w, *]))
            exact fun q hq => by rcases hmi2 q hq with rfl | h; exact .inl (by simp); exact .inr h
          · obtain rfl : left.length = e := by omega
            clear hc hwe
            rw [List.take_length]
            refine amStr (h := ?_)
            refine amReg PT86_ok (h := ?_)
            refine amStr (h := ?_)
            refine k_lp (⟨(k + 1, u2), by dsimp only; omega, hu2, by dsimp only; rw [hks2]; exact hkst⟩ : {k : Nat × List Nat // k.1 ≤ fi.length ∧ Uf k.2 r ∧ KInv k.1 (kState r L xs fi k.1)}) (by dsimp only; omega) ?_
            simp only [hks2]
            have hmc : renLL (rho2 (1000 + j) 62 (20000 + j) 63) (mapR K1) = mapH K1 j := mapH_close hj9
            refine weak_fams (1000 + j) 62 (20000 + j) 63 hKc1 (by omega) (by omega) (by omega) (by omega) (by omega) rfl ?_ ?_ ?_ ?_
            rotate_right 2
            · intro i hx
              by_cases e : i = j
              · subst e; rw [rho2_1, hjg, upG_at]; simp [lk, clO, hcm]
              · have := lk_famH_cl G hx hKc1 e
                rw [rho2_id (by omega) (by omega), upG_ne _ _ (hjn i hx e)]; ((try simp only [List.mem_cons, List.not_mem_nil, or_false, forall_eq_or_imp, forall_eq]); (try simp (disch := omega) [lk, lk_st, lk_dl, lk_cl, lk_pt, lk_fams_lt, AV.ids, idsL, idsLL, AV.ren, renL, renLL, rho2_lt, rho2_id, rho2_1, rho2_2, lk_famH_lt, ren_mapR, i64w, *]))
            · intro i hx
              by_cases e : i = j
              · subst e; rw [rho2_2 (by omega), hjg, upG_at, ren_pt, rho2_1]; simp [lk, hcln]
              · have := lk_famH_pt G hx hjK hKc1 e
                rw [rho2_id (by omega) (by omega), upG_ne _ _ (hjn i hx e), ren_pt, rho2_id (by omega) (by omega), ← ptO_eq]; ((try simp only [List.mem_cons, List.not_mem_nil, or_false, forall_eq_or_imp, forall_eq]); (try simp (disch := omega) [lk, lk_st, lk_dl, lk_cl, lk_pt, lk_fams_lt, AV.ids, idsL, idsLL, AV.ren, renL, renLL, rho2_lt, rho2_id, rho2_1, rho2_2, lk_famH_lt, ren_mapR, i64w, *]))
            all_goals ((try simp only [List.mem_cons, List.not_mem_nil, or_false, forall_eq_or_imp, forall_eq]); (try simp (disch := omega) [lk, lk_st, lk_dl, lk_cl, lk_pt, lk_fams_lt, AV.ids, idsL, idsLL, AV.ren, renL, renLL, rho2_lt, rho2_id, rho2_1, rho2_2, lk_famH_lt, ren_mapR, i64w, *]))
            exact fun q hq => .inr (ids_mapR K1 q hq)
      · obtain rfl : fi.length = k := by omega
        clear hc hwk hks
        refine s_frz clD ?_
        refine s_weak ⟨203, [(4, .ref 60 0 out.length), (1, aInts xs), (2, .ptr 0 0 0), (5, .ptr 2 0 0), (6, .v (.int .i64 0)), (7, .ptr 7 0 0), (8, .ptr 8 0 0), (11, .mp 55)], [(7, ⟨59, 129, [uRow u1]⟩), (0, ⟨24, 2, [[.v (.int .i64 N), aRows L]]⟩), (2, ⟨31, 2, [[.v (.int .u64 ((lo free).toNat : Int)), .v (.int .u64 ((hi free).toNat : Int))]]⟩), (8, ⟨60, 1, [[.clo 28 [.ptr 7 0 0, .ptr 8 0 0]]]⟩), (60, ⟨44, 3, out.map partRow⟩), (55, ⟨63, 0, mapR K⟩)] ++ famP K G, [60, 55, 8, 7, 2, 0] ++ fmI K⟩ ?_ ?_
        · refine weak_frz hKc rfl ?_ ?_ ?_ ?_
          rotate_right 2
          · intro j hj; have := lk_cl G hj; ((try simp only [List.mem_cons, List.not_mem_nil, or_false, forall_eq_or_imp, forall_eq]); (try simp (disch := omega) [lk, lk_st, lk_dl, lk_cl, lk_pt, lk_fams_lt, AV.ids, idsL, idsLL, AV.ren, renL, renLL, rho2_lt, rho2_id, rho2_1, rho2_2, lk_famH_lt, ren_mapR, i64w, *]))
          · intro j hj; have := lk_pt G hj hKc; ((try simp only [List.mem_cons, List.not_mem_nil, or_false, forall_eq_or_imp, forall_eq]); (try simp (disch := omega) [lk, lk_st, lk_dl, lk_cl, lk_pt, lk_fams_lt, AV.ids, idsL, idsLL, AV.ren, renL, renLL, rho2_lt, rho2_id, rho2_1, rho2_2, lk_famH_lt, ren_mapR, i64w, *]))
          all_goals ((try simp only [List.mem_cons, List.not_mem_nil, or_false, forall_eq_or_imp, forall_eq]); (try simp (disch := omega) [lk, lk_st, lk_dl, lk_cl, lk_pt, lk_fams_lt, AV.ids, idsL, idsLL, AV.ren, renL, renLL, frz_lk, frz_sl, frzV, AS.shut1, AS.shut2, AS.shutL, clD_lt, frz_mapR, frz_clo, frzO_pure, rho2_lt, rho2_id, rho2_1, rho2_2, lk_famH_lt, ren_mapR, i64w, *]))
          all_goals (try simp [frzO, idsLL, idsL, AV.ids])
          all_goals (first | exact ids_mapR2 K _ | exact fun q hq => .inr (ids_mapR K q hq) | skip)
        have hpf := fun j (h : j < K.length) => lk_famP G h
        have hwN : IntKind.i64.wrap (N + 1) = N + 1 := by rw [show N = ((N.toNat : Nat) : Int) from by omega]; exact i64s _ (by omega)
        have hfl0 : finL K G 0 = [] := rfl
        refine amStr (h := ?_)
        refine amReg PT86_ok (h := ?_)
        refine amStr (h := ?_)
        refine s_loop (J := fun w : {w : Nat // (w : Int) ≤ N + 1} => ⟨203, [(4, .ref 60 0 (out ++ finL K G w.1).length), (2, .ptr 0 0 0), (5, .ptr 2 0 0), (6, .v (.int .i64 0)), (11, .mp 55), (185, .v (.int .i64 (N + 1))), (186, .v (.int .i64 (w.1 : Int)))], [(7, ⟨59, 129, [uRow u1]⟩), (0, ⟨24, 2, [[.v (.int .i64 N), aRows L]]⟩), (2, ⟨31, 2, [[.v (.int .u64 ((lo free).toNat : Int)), .v (.int .u64 ((hi free).toNat : Int))]]⟩), (8, ⟨60, 1, [[.clo 28 [.ptr 7 0 0, .ptr 8 0 0]]]⟩), (60, ⟨44, 3, (out ++ finL K G w.1).map partRow⟩), (55, ⟨63, 0, mapR K⟩)] ++ famP K G, [60, 55, 8, 7, 2, 0] ++ fmI K⟩) (μ := fun w => (N + 1).toNat - w.1) ⟨0, by omega⟩ ?_ (fun ⟨w, hwl⟩ => ?_)
        · refine weak_P id (fun q hq => rfl) hKc rfl ?_ ?_ ?_ ?_
          rotate_right
          · intro j hj; have := hpf j hj; ((try simp only [List.mem_cons, List.not_mem_nil, or_false, forall_eq_or_imp, forall_eq]); (try simp (disch := omega) [lk, lk_st, lk_dl, lk_cl, lk_pt, lk_fams_lt, AV.ids, idsL, idsLL, AV.ren, renL, renLL, rho2_lt, rho2_id, rho2_1, rho2_2, lk_famH_lt, ren_mapR, i64w, *]))
          all_goals ((try simp only [List.mem_cons, List.not_mem_nil, or_false, forall_eq_or_imp, forall_eq]); (try simp (disch := omega) [lk, lk_st, lk_dl, lk_cl, lk_pt, lk_fams_lt, AV.ids, idsL, idsLL, AV.ren, renL, renLL, rho2_lt, rho2_id, rho2_1, rho2_2, lk_famH_lt, ren_mapR, i64w, *]))
          exact ⟨(ren_keyRows id 20000 K fun _ _ => rfl).symm, fun q hq => .inr (ids_mapR K q hq)⟩
        have hww : IntKind.i64.wrap ((w : Int) + 1) = (w : Int) + 1 := i64s w (by omega)
        have hfl := finL_len K G w
        obtain ⟨o2, ho2⟩ : ∃ o2, out ++ finL K G w = o2 := ⟨_, rfl⟩
        have ho2l : o2.length ≤ L.length + w := by rw [← ho2]; simp; omega
        rw [ho2]
        refine amStr (h := ?_)
        refine amReg PT86_ok (h := ?_)
        refine amStr (h := ?_)
        (focus ((with_reducible refine sp_cond (b := ?_) ?_ (fun hc => ?_) (fun hc => ?_)); rotate_left; (focus (first | rfl | (simp [lk, AS.ev]; rfl))); all_goals (try simp at hc)))
        · have hww1 := hc
          clear hc
          have hfa := findA_keys K (fun j => .ptr (20000 + j) 0 0) w 0
          rw [show keyRows K (fun j => .ptr (20000 + j) 0 0) = mapR K from rfl, Nat.zero_add] at hfa
          have hokw : okI (w : Int) = true := okI_iff.2 ⟨by omega, by omega⟩
          have hlo : o2.length ≤ 4300 := by omega
          by_cases hwK : w ∈ K
          · have hfy := finL_yes G hwK
            have ho3 : out ++ finL K G (w + 1) = o2 ++ [G w] := by rw [hfy, ← ho2, List.append_assoc]
            rw [if_pos hwK] at hfa
            have hjK := idx_lt hwK
            have hkr : (mapR K).getD (K.idxOf w) [] = [.v (.int .i64 (w : Int)), .ptr (20000 + K.idxOf w) 0 0] := by unfold mapR; rw [keyRows_get hjK, idx_get hwK]
            have hlp := hpf _ hjK
            rw [idx_get hwK] at hlp
            have hpe : partRow (G w) = [.v (.int .u64 ((lo (G w).1).toNat : Int)), .v (.int .u64 ((hi (G w).1).toNat : Int)), aInts (G w).2] := rfl
            have hpm : (o2 ++ [G w]).map partRow = o2.map partRow ++ [partRow (G w)] := by simp
            have hpl2 : (o2 ++ [G w]).length = o2.length + 1 := by simp
            rw [hpe] at hlp hpm
            clear hpe hfy ho2
            obtain ⟨o3, ho3e⟩ : ∃ o3, o2 ++ [G w] = o3 := ⟨_, rfl⟩
            rw [ho3e] at hpm hpl2 ho3
            obtain ⟨⟨gs, gc⟩, hG⟩ : ∃ p, G w = p := ⟨_, rfl⟩
            rw [hG] at hlp hpm
            dsimp only at hlp hpm
            obtain ⟨j, hj⟩ : ∃ j, K.idxOf w = j := ⟨_, rfl⟩
            rw [hj] at hfa hkr hlp hjK
            clear hG ho3e hj hwK hpf
            have c4 : (o2.length + 1) * 40 ≤ 140737488355328 := by omega
            refine amStr (h := ?_)
            refine amReg PT86_ok (h := ?_)
            refine amStr (h := ?_)
            refine amReg PT86_ok (h := ?_)
            refine amStr (h := ?_)
            refine amReg PT86_ok (h := ?_)
            refine amStr (h := ?_)
            refine s_regionL ?_
            ((iterate 4 (((with_reducible refine spl_step TT_ok PT86_ok (id := 0) (σ' := ?_) ?_ ?_); rotate_left; (focus (simp [*]; rfl))))))
            (((with_reducible refine spl_step TT_ok PT86_ok (id := 64) (σ' := ?_) ?_ ?_); rotate_left; (focus (simp [*]; rfl))))
            (((with_reducible refine spl_step TT_ok PT86_ok (id := 65) (σ' := ?_) ?_ ?_); rotate_left; (focus (simp [*]; rfl))))
            ((iterate 1 (((with_reducible refine spl_step TT_ok PT86_ok (id := 0) (σ' := ?_) ?_ ?_); rotate_left; (focus (simp [*]; rfl))))))
            refine spl_nil ?_
            refine amStr (h := ?_)
            refine amReg PT86_ok (h := ?_)
            refine amStr (h := ?_)
            refine k_lp (⟨w + 1, by omega⟩ : {w : Nat // (w : Int) ≤ N + 1}) (by dsimp only; omega) ?_
            dsimp only
            rw [ho3]
            have hm65 : renLL (rho2 60 65 60 65) (mapR K) = mapR K := ren_mapR (by omega) (.inl (by omega))
            refine weak_P (rho2 60 65 60 65) (fun q hq => rho2_id (by omega) (by omega)) hKc rfl ?_ ?_ ?_ ?_
            rotate_right
            · intro j hj; have := lk_famP G hj; ((try simp only [List.mem_cons, List.not_mem_nil, or_false, forall_eq_or_imp, forall_eq]); (try simp (disch := omega) [lk, lk_st, lk_dl, lk_cl, lk_pt, lk_fams_lt, AV.ids, idsL, idsLL, AV.ren, renL, renLL, rho2_lt, rho2_id, rho2_1, rho2_2, lk_famH_lt, ren_mapR, i64w, *]))
            all_goals ((try simp only [List.mem_cons, List.not_mem_nil, or_false, forall_eq_or_imp, forall_eq]); (try simp (disch := omega) [lk, lk_st, lk_dl, lk_cl, lk_pt, lk_fams_lt, AV.ids, idsL, idsLL, AV.ren, renL, renLL, rho2_lt, rho2_id, rho2_1, rho2_2, lk_famH_lt, ren_mapR, i64w, *]))
            exact fun q hq => .inr (ids_mapR K q hq)
          · have hfn := finL_no G hwK
            have ho3 : out ++ finL K G (w + 1) = o2 := by rw [hfn, ho2]
            rw [if_neg hwK] at hfa
            refine amStr (h := ?_)
            refine amReg PT86_ok (h := ?_)
            refine amStr (h := ?_)
            refine amReg PT86_ok (h := ?_)
            refine amStr (h := ?_)
            refine amReg PT86_ok (h := ?_)
            refine amStr (h := ?_)
            refine amReg PT86_ok (h := ?_)
            refine amStr (h := ?_)
            refine k_lp (⟨w + 1, by omega⟩ : {w : Nat // (w : Int) ≤ N + 1}) (by dsimp only; omega) ?_
            dsimp only
            rw [ho3]
            refine weak_P id (fun q hq => rfl) hKc rfl ?_ ?_ ?_ ?_
            rotate_right
            · intro j hj; have := hpf j hj; ((try simp only [List.mem_cons, List.not_mem_nil, or_false, forall_eq_or_imp, forall_eq]); (try simp (disch := omega) [lk, lk_st, lk_dl, lk_cl, lk_pt, lk_fams_lt, AV.ids, idsL, idsLL, AV.ren, renL, renLL, rho2_lt, rho2_id, rho2_1, rho2_2, lk_famH_lt, ren_mapR, i64w, *]))
            all_goals ((try simp only [List.mem_cons, List.not_mem_nil, or_false, forall_eq_or_imp, forall_eq]); (try simp (disch := omega) [lk, lk_st, lk_dl, lk_cl, lk_pt, lk_fams_lt, AV.ids, idsL, idsLL, AV.ren, renL, renLL, rho2_lt, rho2_id, rho2_1, rho2_2, lk_famH_lt, ren_mapR, i64w, *]))
            exact ⟨(ren_keyRows id 20000 K fun _ _ => rfl).symm, fun q hq => .inr (ids_mapR K q hq)⟩
        · obtain rfl : w = (N + 1).toNat := by omega
          clear hc
          have hfin : splitP N L xs = o2 := by
            obtain ⟨⟨h1, h2, h3, h4⟩⟩ := hres
            unfold splitP splitS
            rw [h1, h2, h4, hKG]
            exact ho2
          have hfr2 : splitF N L xs = free := by obtain ⟨⟨h1, h2, h3, h4⟩⟩ := hres; exact h3
          clear ho2 hfl hww hKG
          have htk : (o2.map partRow).take o2.length = o2.map partRow := List.take_of_length_le (by simp)
          refine s_frz (fun q => q == 60) ?_
          refine s_weak ⟨203, [(4, .sl 3 (o2.map partRow)), (5, .ptr 2 0 0), (6, .v (.int .i64 0))], [(2, ⟨31, 2, [[.v (.int .u64 ((lo free).toNat : Int)), .v (.int .u64 ((hi free).toNat : Int))]]⟩)], [2]⟩ ?_ ?_
          · refine weak_id rfl ?_ ?_
            all_goals ((try simp only [List.mem_cons, List.not_mem_nil, or_false, forall_eq_or_imp, forall_eq]); (try simp (disch := omega) [lk, lk_st, lk_dl, lk_cl, lk_pt, lk_fams_lt, AV.ids, idsL, idsLL, AV.ren, renL, renLL, frz_lk, frz_sl, frzV, AS.shut1, AS.shut2, AS.shutL, clD_lt, frz_mapR, frz_clo, frzO_pure, rho2_lt, rho2_id, rho2_1, rho2_2, lk_famH_lt, ren_mapR, i64w, *]))
            all_goals (try simp [aParts, frzO, idsLL, idsL, AV.ids])
          refine amStr (h := ?_)
          (focus ((with_reducible refine s_drawQ 70 (es := ?_) (σ' := ?_) prog_mixed TT_ok PT86_ok ?_ ?_ ?_); rotate_left 2; (focus ((repeat (((with_reducible refine runE_cons (e := ?_) (σ1 := ?_) (es := ?_) ?_ ?_ ?_); rotate_left 3; (focus (simp [*]; exact Eq.refl _)); (focus (simp; exact Eq.refl _))))); (exact runE_nil))); (focus (first | kernel_rfl | decide))))
          refine amStr (h := ?_)
          ((refine post_ret (av := ?_) (by first | exact .inl rfl | exact .inr rfl) (show (Try.f12).results.toList = _ from by rw [Try.results12]) ?_ ?_); rotate_left; (focus (simp [retA, retL, ret1, lk, st, ldA, AV.cell]; rfl)); (try simp [*]))
          all_goals (try simp [aParts])
end Go.Proofs.Ytekeidhndlnghaa
