/- The law PartsDivide returns true; no condition. -/
import Derived.Test.YtekeidhndlnghaaDv16
import Derived.Test.YtekeidhndlnghaaWa
import Derived.Test.YtekeidhndlnghaaSyG
import Derived.Test.YtekeidhndlnghaaTr16
import Derived.Test.YtekeidhndlnghaaUfp
import Derived.Test.YtekeidhndlnghaaRows
namespace Go.Proofs.Ytekeidhndlnghaa
set_option linter.unusedVariables false
set_option linter.unusedSimpArgs false
set_option linter.unusedSectionVars false
open Go.ChangeShapes Go.WideShapes Go.ChangeAt Go.RowKit
attribute [local simp] List.getD_cons_zero List.getD_cons_succ List.getD_nil undef gvars runL runE effA stepA dstOk wantA core lk st dl AS.ev AS.evs AS.put AS.upd updO updI nxt cPick cAlloc cBox cBuild cBuildS cLoad cStore cNil plainOf cBin cNilS isNilS nilA cUn cConvX cConvB cConv bytesOf rowB cMake cSlice slA idxA cFA cF cIA cIX cIS cI cExt cLen cApp cMM cFun cCall lenA lenM isNilM nilM cNilM cMakeM hintB cMapK cLook foundR lookR cUpd putM cDel delM findA isKeyB Instr.sameNow AS.entry AS.bound AS.callee sc1 sc2 ixOk ldA AV.flat AV.cell AV.cells Value.oneCell' fillA spl chunk zeros AS.parts AS.rows AS.shut AS.shut1 AS.shut2 AS.shutL AS.shutM AV.ids idsL idsLL eqAll bndA AV.scalar AV.scalar1 AV.isV Ef.app Ef.pk ptOf pntO wrO wr
attribute [-simp] List.getD_eq_getElem?_getD
set_option maxRecDepth 100000
@[simp] def g_r4Subs : List AV → Option (AV × Bool)
  | [a0, a1] => (match toInts a0 with | some xs => (match toInts a1 with | some ys => if (okInts xs && okInts ys) = true then some (.v (.bool (xs.all fun y => decide (y ∈ ys))), true) else none | none => none) | none => none)
  | _ => none
theorem e_r4Subs : EntOk Try.prog 21 g_r4Subs := ent_fresh (by kernel_rfl) fun args r fr h => by
  unfold g_r4Subs at h
  split at h
  · rename_i a0 a1
    split at h
    · rename_i xs t0
      split at h
      · rename_i ys t1
        split at h
        · rename_i hc
          simp only [Bool.and_eq_true] at hc
          obtain ⟨o0, o1⟩ := hc
          cases h
          exact fresh_same fun S w vs hS hn hv => by
            obtain ⟨u0, u1, rfl, r0, r1⟩ := args2 hn hv
            have q0 := ints_of hS r0 t0 o0
            have q1 := ints_of hS r1 t1 o1
            exact ref04Subsumes_c q0 q1
        · cases h
      · cases h
    · cases h
  · cases h

def l96 : List (FuncId × (List AV → Option (AV × Bool))) :=
  (10, g_few16) :: (11, g_works6) :: (12, g_pSplit6) :: (20, g_r4In) :: (21, g_r4Subs) :: (22, g_r6Left) :: l1
theorem l96_ok : ∀ p ∈ l96, EntOk Try.prog p.1 p.2 := ent_cons e_few16 (ent_cons e_works6 (ent_cons e_pSplit6 (ent_cons e_r4In (ent_cons e_r4Subs (ent_cons e_r6Left (l1_ok))))))
def PT96 : PTab := tab l96
theorem PT96_ok : PTok Try.prog PT96 := tab_ok l96_ok
@[simp] theorem PT96_few16 : PT96 10 = g_few16 := rfl
@[simp] theorem PT96_works6 : PT96 11 = g_works6 := rfl
@[simp] theorem PT96_pSplit6 : PT96 12 = g_pSplit6 := rfl
@[simp] theorem PT96_r4In : PT96 20 = g_r4In := rfl
@[simp] theorem PT96_r4Subs : PT96 21 = g_r4Subs := rfl
@[simp] theorem PT96_r6Left : PT96 22 = g_r6Left := rfl
def cRow (C : List Int) : List AV := fnRow 101 fun i => .v (.int .i64 (C.count (i : Int) : Int))
@[simp ↓ high] theorem d_c_len (C : List Int) : (cRow C).length = 101 := d_len_fn _ _
@[simp ↓ high] theorem d_c_ids (C : List Int) : idsL (cRow C) = [] := idsL_fn fun _ => rfl
@[simp ↓ high] theorem d_c_ren (ρ : Nat → Nat) (C : List Int) : renL ρ (cRow C) = cRow C := renL_fn ρ fun _ => rfl
theorem c_ld0 (C : List Int) {j : Nat} (hj : j < 101) : (List.drop j (cRow C)).getD 0 .any = .v (.int .i64 (C.count (j : Int) : Int)) := by
  have := ld_fn (ti := TI.mk 1 false [] (.plain .bool) none) (f := fun i : Nat => AV.v (.int .i64 (C.count (i : Int) : Int))) rfl hj
  unfold cRow
  simpa only [ldA, Bool.false_eq_true, if_false] using this
theorem c_wr (C : List Int) {j : Nat} (hj : j < 101) : wr (cRow C) j [.v (.int .i64 ((C.count (j : Int) : Int) + 1))] = cRow (C ++ [(j : Int)]) := by
  unfold cRow
  rw [wr_fn _ hj]
  congr 1
  funext i
  rw [List.count_append]
  by_cases e : i = j
  · subst e; rw [if_pos rfl]; simp
  · rw [if_neg e]
    have : List.count (i : Int) [(j : Int)] = 0 := by rw [List.count_eq_zero]; simp; omega
    rw [this]; simp
theorem c_start : cRow [] = List.replicate 101 (.v (.int .i64 0)) := by kernel_rfl
theorem s_cutK {P : Program} {B : Base} {x y : Code} {σ : AS} {Q : Exit → AS → Prop} (S : AS) (h : SP P B x σ (fun e τ => e = .normal ∧ ∀ c Q', SP P B c S Q' → SP P B c τ Q')) (k : SP P B y S Q) : SP P B x σ (Kseq P B y Q) :=
  sp_mono h fun e τ h => by obtain ⟨rfl, h⟩ := h; exact k_seq (h y Q k)
def nB (b : Bool) : Int := if b = true then 1 else 0
theorem cntV_take {l : List PrtL} {k : Nat} (hk : k < l.length) (v : Int) : cntV (l.take (k + 1)) v = cntV (l.take k) v + if sHas (l.getD k (0#128, [])).1 v = true then 1 else 0 := by
  have e : l.getD k (0#128, []) = l[k] := by simp [List.getD, hk]
  rw [List.take_succ_eq_append_getElem hk, cntV_append, e]
  cases h : sHas l[k].1 v <;> simp [cntV, h]
theorem cntV_le (l : List PrtL) (v : Int) : cntV l v ≤ l.length := List.length_filter_le _ _
theorem flatC_take {l : List PrtL} {k : Nat} (hk : k < l.length) : flatC (l.take (k + 1)) = flatC (l.take k) ++ (l.getD k (0#128, [])).2 := by
  have e : l.getD k (0#128, []) = l[k] := by simp [List.getD, hk]
  rw [List.take_succ_eq_append_getElem hk, flatC_append, e]
  simp [flatC]
theorem flatC_sub {l : List PrtL} {k : Nat} (hk : k < l.length) : (l.getD k (0#128, [])).2 <+: (l.getD k (0#128, [])).2 := List.prefix_refl _
theorem flatC_mem {l : List PrtL} {k : Nat} (hk : k < l.length) {x : Int} (hx : x ∈ (l.getD k (0#128, [])).2) : x ∈ flatC l := by
  have e : l.getD k (0#128, []) = l[k] := by simp [List.getD, hk]
  rw [e] at hx
  exact List.mem_flatMap.2 ⟨l[k], List.getElem_mem hk, hx⟩
theorem flatC_count {l : List PrtL} {k b : Nat} (hk : k < l.length) (x : Int) : (flatC (l.take k) ++ (l.getD k (0#128, [])).2.take b).count x ≤ (flatC l).count x := by
  have e1 : flatC (l.take k) ++ (l.getD k (0#128, [])).2 = flatC (l.take (k + 1)) := (flatC_take hk).symm
  have e2 : flatC l = flatC (l.take (k + 1)) ++ flatC (l.drop (k + 1)) := by rw [← flatC_append, List.take_append_drop]
  rw [e2, ← e1]
  simp only [List.count_append]
  have := List.Sublist.count_le x (List.take_sublist b (l.getD k (0#128, [])).2)
  omega
set_option maxHeartbeats 8000000 in
theorem pdivide_bad (N : Int) (L : List (List Int)) (ts : List Int) (hN : okI N = true) (hL : okLens L = true) (ht : okIL ts = true) (hv : ¬ validT N L ts = true) : FnPure Try.prog 5 [aTh N L, aInts ts] (.v (.bool true)) := by
  cases hf : fewW L ts
  · unfold aTh
    refine fn_sp TT_ok Try.func5 (c := _) rfl (by simp [Try.ntmps5]) (fun B hI0 hro => ?_)
    rw [Try.ntmps5]
    simp only [enumA]
    refine amGo PT96_ok (h := ?_)
    ((refine post_ret (av := ?_) (by first | exact .inl rfl | exact .inr rfl) (show (Try.f5).results.toList = _ from by rw [Try.results5]) ?_ ?_); rotate_left; (focus (simp [retA, retL, ret1, lk, st, ldA, AV.cell]; rfl)); (try simp [*]))
  obtain ⟨h1, h2⟩ := fewW_len hf
  have htr := okInts_il ht (by omega)
  have e1 : splL N L ts = [] := if_neg hv
  have e2 : splF N L ts = 0#128 := if_neg hv
  have e3 : splEr N L ts = 1 := if_neg hv
  have hp0 : aParts [] = .sl 3 [] := rfl
  have hs0 : aSet 0#128 = .agg [.v (.int .u64 0), .v (.int .u64 0)] := rfl
  clear hv
  unfold aTh
  refine fn_sp TT_ok Try.func5 (c := _) rfl (by simp [Try.ntmps5]) (fun B hI0 hro => ?_)
  rw [Try.ntmps5]
  simp only [enumA]
  refine amGo PT96_ok (h := ?_)
  ((refine post_ret (av := ?_) (by first | exact .inl rfl | exact .inr rfl) (show (Try.f5).results.toList = _ from by rw [Try.results5]) ?_ ?_); rotate_left; (focus (simp [retA, retL, ret1, lk, st, ldA, AV.cell]; rfl)); (try simp [*]))
set_option maxHeartbeats 8000000 in
theorem pdivide_ok (N : Int) (L : List (List Int)) (ts : List Int) (hN : okI N = true) (hL : okLens L = true) (ht : okIL ts = true) (hv : validT N L ts = true) (hf : fewW L ts = true) : FnPure Try.prog 5 [aTh N L, aInts ts] (.v (.bool true)) := by
  obtain ⟨h1, h2⟩ := fewW_len hf
  have htr := okInts_il ht (by omega)
  obtain ⟨_, n1, _, hl3⟩ := checkT_ok (valid_check hv)
  have n0 := (checkT_ok (valid_check hv)).1
  have hLr : okRows L = true := okRows_lens hL (by omega) fun c hc => by have := (hl3 c hc).1; omega
  have hvars := fun v h1 h2 => div_vars hv (v := v) h1 h2
  have hcls := fun i hi => div_clauses hv (i := i) hi
  have hrng := fun c hc => div_range hv (c := c) hc
  have hok := okParts_spl N L ts
  have e3 : splEr N L ts = 0 := if_pos hv
  obtain ⟨l, hl⟩ : ∃ l, splL N L ts = l := ⟨_, rfl⟩
  obtain ⟨f, hfr⟩ : ∃ f, splF N L ts = f := ⟨_, rfl⟩
  rw [hl, hfr] at hvars
  rw [hl] at hcls hrng hok
  have hln := okParts_len hok
  have hsv : aSet f = .agg [.v (.int .u64 ((lo f).toNat : Int)), .v (.int .u64 ((hi f).toNat : Int))] := rfl
  have hap : aParts l = .sl 3 (l.map partRow) := rfl
  have hidl := idsLL_parts l
  have hc0 := c_start
  have HV := Lib.hid hvars
  have HC := Lib.hid hcls
  have HR := Lib.hid hrng
  clear hvars hcls hrng hv hl3
  unfold aTh
  refine fn_sp TT_ok Try.func5 (c := _) rfl (by simp [Try.ntmps5]) (fun B hI0 hro => ?_)
  rw [Try.ntmps5]
  simp only [enumA]
  refine amGo PT96_ok (h := ?_)
  refine s_loop (J := fun v : {v : Nat // v ≤ 128} => ⟨148, [(1, aInts ts), (2, .ptr 0 0 0), (4, .v (.bool false)), (5, .sl 3 (l.map partRow)), (6, .ptr 8 0 0), (8, .ptr 9 0 0), (9, .v (.int .i64 ((v.1 : Int) + 1)))], [(9, ⟨48, 101, [cRow []]⟩), (0, ⟨24, 2, [[.v (.int .i64 N), aRows L]]⟩), (8, ⟨31, 2, [[.v (.int .u64 ((lo f).toNat : Int)), .v (.int .u64 ((hi f).toNat : Int))]]⟩)], [9, 8, 0]⟩) (μ := fun v => 128 - v.1) ⟨0, by omega⟩ ?_ (fun ⟨v, hve⟩ => ?_)
  · (refine weak_id rfl ?_ ?_ <;> ((try simp only [List.mem_cons, List.not_mem_nil, or_false, forall_eq_or_imp, forall_eq]); (try simp (disch := omega) [i64w, *])))
    trace_state
  clear hc0
  dsimp only
  by_cases hv128 : v < 128
  · have hle : (v : Int) + 1 ≤ 128 := by omega
    have h1v : (1 : Int) ≤ (v : Int) + 1 := by omega
    have hov : okI ((v : Int) + 1) = true := okI_iff.2 ⟨by omega, by omega⟩
    have hwv : IntKind.i64.wrap ((v : Int) + 1 + 1) = (v : Int) + 1 + 1 := i64w (by omega) (by omega)
    have hdv := Lib.hid (HV.out ((v : Int) + 1) h1v hle)
    obtain ⟨w, hw⟩ : ∃ w : Int, (v : Int) + 1 = w := ⟨_, rfl⟩
    rw [hw] at hle h1v hov hwv hdv ⊢
    have hw2 := Lib.hid hw
    clear hw
    have hwn : IntKind.i64.wrap (-w) = -w := i64w (by omega) (by omega)
    have hokn : okI (-w) = true := okI_iff.2 ⟨by omega, by omega⟩
    refine amStr (h := ?_)
    refine amReg PT96_ok (h := ?_)
    refine amStr (h := ?_)
    refine amReg PT96_ok (h := ?_)
    refine amStr (h := ?_)
    refine amReg PT96_ok (h := ?_)
    refine k_seq ?_
    refine s_cutK ⟨148, [(1, aInts ts), (2, .ptr 0 0 0), (4, .v (.bool false)), (5, .sl 3 (l.map partRow)), (6, .ptr 8 0 0), (8, .ptr 9 0 0), (9, .v (.int .i64 w)), (10, .v (.int .i64 (nB (sHas f w))))], [(9, ⟨48, 101, [cRow []]⟩), (0, ⟨24, 2, [[.v (.int .i64 N), aRows L]]⟩), (8, ⟨31, 2, [[.v (.int .u64 ((lo f).toNat : Int)), .v (.int .u64 ((hi f).toNat : Int))]]⟩)], [9, 8, 0]⟩ ?_ ?_
    · cases hq : sHas f w
      · have hn0 : nB false = 0 := rfl
        refine amStr (h := ?_)
        refine ⟨rfl, fun c Q' k => ?_⟩
        refine s_weak _ ?_ k
        (refine weak_id rfl ?_ ?_ <;> ((try simp only [List.mem_cons, List.not_mem_nil, or_false, forall_eq_or_imp, forall_eq]); (try simp (disch := omega) [i64w, *])))
      · have hn0 : nB true = 1 := rfl
        refine amGo PT96_ok (h := ?_)
        refine ⟨rfl, fun c Q' k => ?_⟩
        refine s_weak _ ?_ k
        (refine weak_id rfl ?_ ?_ <;> ((try simp only [List.mem_cons, List.not_mem_nil, or_false, forall_eq_or_imp, forall_eq]); (try simp (disch := omega) [i64w, *])))
    obtain ⟨a, ha⟩ : ∃ a, nB (sHas f w) = a := ⟨_, rfl⟩
    have har : 0 ≤ a ∧ a ≤ 1 := by rw [← ha]; unfold nB; split <;> omega
    rw [ha]
    have hA := Lib.hid ha
    clear ha
    have ht1 : toInts (AV.sl 1 [[.v (.int .i64 w)]]) = some [w] := rfl
    have ht2 : toInts (AV.sl 1 [[.v (.int .i64 (-w))]]) = some [-w] := rfl
    have hk1 : okInts [w] = true := by simp [okInts, hov]
    have hk2 : okInts [-w] = true := by simp [okInts, hokn]
    repeat (with_reducible refine s_seq ?_)
    refine s_cutK ⟨148, [(1, aInts ts), (2, .ptr 0 0 0), (4, .v (.bool false)), (5, .sl 3 (l.map partRow)), (6, .ptr 8 0 0), (8, .ptr 9 0 0), (9, .v (.int .i64 w)), (10, .v (.int .i64 a)), (61, .v (.bool (inTs ts w)))], [(9, ⟨48, 101, [cRow []]⟩), (0, ⟨24, 2, [[.v (.int .i64 N), aRows L]]⟩), (8, ⟨31, 2, [[.v (.int .u64 ((lo f).toNat : Int)), .v (.int .u64 ((hi f).toNat : Int))]]⟩)], [9, 8, 0]⟩ ?_ ?_
    · by_cases g1 : w ∈ ts
      · have hin : inTs ts w = true := by simp [inTs, g1]
        refine amReg PT96_ok (h := ?_)
        refine ⟨rfl, fun c Q' k => ?_⟩
        refine s_weak _ ?_ k
        (refine weak_id rfl ?_ ?_ <;> ((try simp only [List.mem_cons, List.not_mem_nil, or_false, forall_eq_or_imp, forall_eq]); (try simp (disch := omega) [i64w, *])))
      · by_cases g2 : -w ∈ ts
        · have hin : inTs ts w = true := by simp [inTs, g2]
          refine amReg PT96_ok (h := ?_)
          refine ⟨rfl, fun c Q' k => ?_⟩
          refine s_weak _ ?_ k
          (refine weak_id rfl ?_ ?_ <;> ((try simp only [List.mem_cons, List.not_mem_nil, or_false, forall_eq_or_imp, forall_eq]); (try simp (disch := omega) [i64w, *])))
        · have hin : inTs ts w = false := by simp [inTs, g1, g2]
          refine amReg PT96_ok (h := ?_)
          refine ⟨rfl, fun c Q' k => ?_⟩
          refine s_weak _ ?_ k
          (refine weak_id rfl ?_ ?_ <;> ((try simp only [List.mem_cons, List.not_mem_nil, or_false, forall_eq_or_imp, forall_eq]); (try simp (disch := omega) [i64w, *])))
    repeat (with_reducible refine s_seq ?_)
    have hwa : IntKind.i64.wrap (a + 1) = a + 1 := i64w (by omega) (by omega)
    refine s_cutK ⟨148, [(1, aInts ts), (2, .ptr 0 0 0), (4, .v (.bool false)), (5, .sl 3 (l.map partRow)), (6, .ptr 8 0 0), (8, .ptr 9 0 0), (9, .v (.int .i64 w)), (10, .v (.int .i64 (a + nB (inTs ts w))))], [(9, ⟨48, 101, [cRow []]⟩), (0, ⟨24, 2, [[.v (.int .i64 N), aRows L]]⟩), (8, ⟨31, 2, [[.v (.int .u64 ((lo f).toNat : Int)), .v (.int .u64 ((hi f).toNat : Int))]]⟩)], [9, 8, 0]⟩ ?_ ?_
    · cases hq : inTs ts w
      · have hn0 : nB false = 0 := rfl
        refine amStr (h := ?_)
        refine ⟨rfl, fun c Q' k => ?_⟩
        refine s_weak _ ?_ k
        (refine weak_id rfl ?_ ?_ <;> ((try simp only [List.mem_cons, List.not_mem_nil, or_false, forall_eq_or_imp, forall_eq]); (try simp (disch := omega) [i64w, *])))
      · have hn0 : nB true = 1 := rfl
        refine amGo PT96_ok (h := ?_)
        refine ⟨rfl, fun c Q' k => ?_⟩
        refine s_weak _ ?_ k
        (refine weak_id rfl ?_ ?_ <;> ((try simp only [List.mem_cons, List.not_mem_nil, or_false, forall_eq_or_imp, forall_eq]); (try simp (disch := omega) [i64w, *])))
    obtain ⟨b, hb⟩ : ∃ b, a + nB (inTs ts w) = b := ⟨_, rfl⟩
    have hbr : 0 ≤ b ∧ b ≤ 2 := by rw [← hb]; unfold nB; split <;> omega
    rw [hb]
    have hB := Lib.hid hb
    clear hb hwa har
    refine amStr (h := ?_)
    refine amReg PT96_ok (h := ?_)
    refine amStr (h := ?_)
    refine s_loop (J := fun i : {i : Nat // i ≤ l.length} => ⟨148, [(1, aInts ts), (2, .ptr 0 0 0), (4, .v (.bool false)), (5, .sl 3 (l.map partRow)), (6, .ptr 8 0 0), (8, .ptr 9 0 0), (9, .v (.int .i64 w)), (10, .v (.int .i64 (b + (cntV (l.take i.1) w : Int)))), (11, .v (.int .i64 (i.1 : Int)))], [(9, ⟨48, 101, [cRow []]⟩), (0, ⟨24, 2, [[.v (.int .i64 N), aRows L]]⟩), (8, ⟨31, 2, [[.v (.int .u64 ((lo f).toNat : Int)), .v (.int .u64 ((hi f).toNat : Int))]]⟩)], [9, 8, 0]⟩) (μ := fun i => l.length - i.1) ⟨0, Nat.zero_le _⟩ ?_ (fun ⟨i, hie⟩ => ?_)
    · have h0 : (cntV [] w : Int) = 0 := rfl
      (refine weak_id rfl ?_ ?_ <;> ((try simp only [List.mem_cons, List.not_mem_nil, or_false, forall_eq_or_imp, forall_eq]); (try simp (disch := omega) [i64w, *])))
    refine amStr (h := ?_)
    refine amReg PT96_ok (h := ?_)
    refine amStr (h := ?_)
    (focus ((with_reducible refine sp_cond (b := ?_) ?_ (fun hc => ?_) (fun hc => ?_)); rotate_left; (focus (first | rfl | (simp [lk, AS.ev]; rfl))); all_goals (try simp at hc)))
    · have hii := hc
      clear hc
      have hrow := parts_row hii
      have hsuc := cntV_take hii w
      have hle2 := cntV_le (l.take i) w
      rw [List.length_take] at hle2
      obtain ⟨p, hp⟩ : ∃ p, l.getD i (0#128, []) = p := ⟨_, rfl⟩
      rw [hp] at hrow hsuc
      obtain ⟨n, hn⟩ : ∃ n, cntV (l.take i) w = n := ⟨_, rfl⟩
      rw [hn] at hsuc hle2
      have hn2 := Lib.hid hn
      rw [hn]
      clear hn hp
      have hwi : IntKind.i64.wrap ((i : Int) + 1) = (i : Int) + 1 := i64s i (by omega)
      have hwb : IntKind.i64.wrap (b + (n : Int) + 1) = b + (n : Int) + 1 := i64w (by omega) (by omega)
      cases hq : sHas p.1 w
      · rw [hq, if_neg (by simp)] at hsuc
        refine amGo PT96_ok (h := ?_)
        refine k_lp (⟨i + 1, by omega⟩ : {i : Nat // i ≤ l.length}) (by first | omega | (dsimp only; omega)) ?_
        dsimp only
        rw [hsuc]
        (refine weak_id rfl ?_ ?_ <;> ((try simp only [List.mem_cons, List.not_mem_nil, or_false, forall_eq_or_imp, forall_eq]); (try simp (disch := omega) [i64w, *])))
      · rw [hq, if_pos rfl] at hsuc
        refine amGo PT96_ok (h := ?_)
        refine k_lp (⟨i + 1, by omega⟩ : {i : Nat // i ≤ l.length}) (by first | omega | (dsimp only; omega)) ?_
        dsimp only
        rw [hsuc]
        have hb1 : b + ((n + 1 : Nat) : Int) = b + (n : Int) + 1 := by omega
        rw [hb1]
        (refine weak_id rfl ?_ ?_ <;> ((try simp only [List.mem_cons, List.not_mem_nil, or_false, forall_eq_or_imp, forall_eq]); (try simp (disch := omega) [i64w, *])))
    · obtain rfl : i = l.length := by omega
      clear hc
      rw [List.take_length]
      obtain ⟨n, hn⟩ : ∃ n : Int, b + (cntV l w : Int) = n := ⟨_, rfl⟩
      rw [hn]
      have hsum : n = if w ≤ N then 1 else 0 := by
        have hw3 := hw2.out
        have h3 := hdv.out
        have e1 := hA.out
        have e2 := hB.out
        unfold nB at e1 e2
        rw [← hn, ← e2, ← e1]
        clear hn
        by_cases g1 : sHas f w = true <;> by_cases g2 : inTs ts w = true <;> by_cases g3 : w ≤ N <;> simp only [g1, g2, g3, if_true, if_false, Bool.false_eq_true] at h3 ⊢ <;> omega
      by_cases hwN : w ≤ N
      · rw [if_pos hwN] at hsum
        subst hsum
        clear hn
        refine amGo PT96_ok (h := ?_)
        refine k_lp (⟨v + 1, by omega⟩ : {v : Nat // v ≤ 128}) (by first | omega | (dsimp only; omega)) ?_
        dsimp only
        have hw3 : (((v + 1 : Nat) : Int) + 1) = w + 1 := by have := hw2.out; omega
        rw [hw3]
        (refine weak_id rfl ?_ ?_ <;> ((try simp only [List.mem_cons, List.not_mem_nil, or_false, forall_eq_or_imp, forall_eq]); (try simp (disch := omega) [i64w, *])))
      · rw [if_neg hwN] at hsum
        subst hsum
        clear hn
        refine amGo PT96_ok (h := ?_)
        refine k_lp (⟨v + 1, by omega⟩ : {v : Nat // v ≤ 128}) (by first | omega | (dsimp only; omega)) ?_
        dsimp only
        have hw3 : (((v + 1 : Nat) : Int) + 1) = w + 1 := by have := hw2.out; omega
        rw [hw3]
        (refine weak_id rfl ?_ ?_ <;> ((try simp only [List.mem_cons, List.not_mem_nil, or_false, forall_eq_or_imp, forall_eq]); (try simp (disch := omega) [i64w, *])))
  · obtain rfl : v = 128 := by omega
    clear HV hv128
    refine amGo PT96_ok (h := ?_)
    refine s_loop (J := fun a : {a : Nat // a ≤ l.length} => ⟨148, [(1, aInts ts), (2, .ptr 0 0 0), (4, .v (.bool false)), (5, .sl 3 (l.map partRow)), (8, .ptr 9 0 0), (12, .v (.int .i64 (a.1 : Int)))], [(9, ⟨48, 101, [cRow (flatC (l.take a.1))]⟩), (0, ⟨24, 2, [[.v (.int .i64 N), aRows L]]⟩)], [9, 0]⟩) (μ := fun a => l.length - a.1) ⟨0, Nat.zero_le _⟩ ?_ (fun ⟨a, hae⟩ => ?_)
    · have h0 : flatC [] = [] := rfl
      (refine weak_id rfl ?_ ?_ <;> ((try simp only [List.mem_cons, List.not_mem_nil, or_false, forall_eq_or_imp, forall_eq]); (try simp (disch := omega) [i64w, *])))
    dsimp only
    refine amStr (h := ?_)
    refine amReg PT96_ok (h := ?_)
    refine amStr (h := ?_)
    (focus ((with_reducible refine sp_cond (b := ?_) ?_ (fun hc => ?_) (fun hc => ?_)); rotate_left; (focus (first | rfl | (simp [lk, AS.ev]; rfl))); all_goals (try simp at hc)))
    · have haa := hc
      clear hc
      have hrow := parts_row haa
      have hsuc := flatC_take haa
      have hcnt := Lib.hid (fun b x => flatC_count (b := b) haa x)
      have hmem := Lib.hid (fun x hx => flatC_mem (x := x) haa hx)
      have hpc := okParts_at hok a
      obtain ⟨p, hp⟩ : ∃ p, l.getD a (0#128, []) = p := ⟨_, rfl⟩
      rw [hp] at hrow hsuc hcnt hmem hpc
      obtain ⟨C0, hC0⟩ : ∃ C0, flatC (l.take a) = C0 := ⟨_, rfl⟩
      rw [hC0] at hsuc hcnt
      rw [hC0]
      clear hp hC0
      obtain ⟨ps, cs⟩ := p
      dsimp only at hrow hsuc hcnt hmem hpc
      have hpl := okInts_len hpc
      have hwa : IntKind.i64.wrap ((a : Int) + 1) = (a : Int) + 1 := i64s a (by omega)
      refine amStr (h := ?_)
      refine amReg PT96_ok (h := ?_)
      refine amStr (h := ?_)
      refine s_loop (J := fun b : {b : Nat // b ≤ cs.length} => ⟨148, [(1, aInts ts), (2, .ptr 0 0 0), (4, .v (.bool false)), (5, .sl 3 (l.map partRow)), (8, .ptr 9 0 0), (12, .v (.int .i64 (a : Int))), (13, .v (.int .i64 (b.1 : Int)))], [(9, ⟨48, 101, [cRow (C0 ++ cs.take b.1)]⟩), (0, ⟨24, 2, [[.v (.int .i64 N), aRows L]]⟩)], [9, 0]⟩) (μ := fun b => cs.length - b.1) ⟨0, Nat.zero_le _⟩ ?_ (fun ⟨b, hbe⟩ => ?_)
      · (refine weak_id rfl ?_ ?_ <;> ((try simp only [List.mem_cons, List.not_mem_nil, or_false, forall_eq_or_imp, forall_eq]); (try simp (disch := omega) [i64w, *])))
      dsimp only
      refine amStr (h := ?_)
      refine amReg PT96_ok (h := ?_)
      refine amStr (h := ?_)
      (focus ((with_reducible refine sp_cond (b := ?_) ?_ (fun hc => ?_) (fun hc => ?_)); rotate_left; (focus (first | rfl | (simp [lk, AS.ev]; rfl))); all_goals (try simp at hc)))
      · have hbb := hc
        clear hc
        have hts : cs.take (b + 1) = cs.take b ++ [cs.getD b 0] := by
          rw [List.take_succ_eq_append_getElem hbb]; simp [List.getD, hbb]
        have hcm := HR.out _ (hmem.out _ (getD_memI hbb))
        obtain ⟨c, hcc⟩ : ∃ c, cs.getD b 0 = c := ⟨_, rfl⟩
        rw [hcc] at hts hcm
        obtain ⟨j, rfl⟩ : ∃ j : Nat, c = j := ⟨c.toNat, by omega⟩
        have hj : j < L.length := by omega
        have hj1 : j < 101 := by omega
        have hj2 : (j : Int) < 101 := by omega
        have hjn : ¬ ((L.length : Int) ≤ (j : Int)) := by omega
        have hjn2 : ¬ (L.length ≤ j) := by omega
        have hj3 : j + 1 ≤ 101 := by omega
        have hle := hcnt.out b (j : Int)
        have hC1 := HC.out j hj
        have hle1 : (flatC l).count (j : Int) ≤ 1 := by rw [hC1]; split <;> omega
        obtain ⟨C1, hC1e⟩ : ∃ C1, C0 ++ cs.take b = C1 := ⟨_, rfl⟩
        have hts2 : C0 ++ cs.take (b + 1) = C1 ++ [(j : Int)] := by rw [hts, ← hC1e, List.append_assoc]
        rw [hC1e] at hle
        rw [hC1e]
        have hld := c_ld0 C1 hj1
        have hwr := c_wr C1 hj1
        have hwc : IntKind.i64.wrap ((C1.count (j : Int) : Int) + 1) = (C1.count (j : Int) : Int) + 1 := i64s _ (by omega)
        have hwb : IntKind.i64.wrap ((b : Int) + 1) = (b : Int) + 1 := i64s b (by omega)
        clear hC1 hC1e hts hcm
        have hspl : (cRow C1).take j ++ AV.v (.int .i64 ((C1.count (j : Int) : Int) + 1)) :: (cRow C1).drop (j + 1) = cRow (C1 ++ [(j : Int)]) := by
          rw [← hwr, wr_spl (by rw [d_c_len]; simp; omega)]; simp [spl]
        refine amStr (h := ?_)
        refine amReg PT96_ok (h := ?_)
        refine amStr (h := ?_)
        refine amReg PT96_ok (h := ?_)
        refine amStr (h := ?_)
        refine amReg PT96_ok (h := ?_)
        refine amStr (h := ?_)
        refine amReg PT96_ok (h := ?_)
        refine amStr (h := ?_)
        refine k_lp (⟨b + 1, by omega⟩ : {b : Nat // b ≤ cs.length}) (by first | omega | (dsimp only; omega)) ?_
        dsimp only
        rw [hts2]
        (refine weak_id rfl ?_ ?_ <;> ((try simp only [List.mem_cons, List.not_mem_nil, or_false, forall_eq_or_imp, forall_eq]); (try simp (disch := omega) [i64w, *])))
      · obtain rfl : b = cs.length := by omega
        clear hc
        rw [List.take_length]
        refine amGo PT96_ok (h := ?_)
        refine k_lp (⟨a + 1, by omega⟩ : {a : Nat // a ≤ l.length}) (by first | omega | (dsimp only; omega)) ?_
        dsimp only
        rw [hsuc]
        (refine weak_id rfl ?_ ?_ <;> ((try simp only [List.mem_cons, List.not_mem_nil, or_false, forall_eq_or_imp, forall_eq]); (try simp (disch := omega) [i64w, *])))
    · obtain rfl : a = l.length := by omega
      clear hc
      rw [List.take_length]
      refine amGo PT96_ok (h := ?_)
      refine s_loop (J := fun i : {i : Nat // i ≤ L.length} => ⟨148, [(1, aInts ts), (2, .ptr 0 0 0), (4, .v (.bool false)), (8, .ptr 9 0 0), (15, .v (.int .i64 (i.1 : Int)))], [(9, ⟨48, 101, [cRow (flatC l)]⟩), (0, ⟨24, 2, [[.v (.int .i64 N), aRows L]]⟩)], [9, 0]⟩) (μ := fun i => L.length - i.1) ⟨0, Nat.zero_le _⟩ ?_ (fun ⟨i, hie⟩ => ?_)
      · (refine weak_id rfl ?_ ?_ <;> ((try simp only [List.mem_cons, List.not_mem_nil, or_false, forall_eq_or_imp, forall_eq]); (try simp (disch := omega) [i64w, *])))
      dsimp only
      refine amStr (h := ?_)
      refine amReg PT96_ok (h := ?_)
      refine amStr (h := ?_)
      (focus ((with_reducible refine sp_cond (b := ?_) ?_ (fun hc => ?_) (fun hc => ?_)); rotate_left; (focus (first | rfl | (simp [lk, AS.ev]; rfl))); all_goals (try simp at hc)))
      · have hii := hc
        clear hc
        have hci := okRows_at hLr i
        have hi1 : i < 101 := by omega
        have hi2 : (i : Int) < 101 := by omega
        have hi3 : i + 1 ≤ 101 := by omega
        have hld := c_ld0 (flatC l) hi1
        have hC1 := HC.out i hii
        have hwi : IntKind.i64.wrap ((i : Int) + 1) = (i : Int) + 1 := i64s i (by omega)
        cases hq : leftL (L.getD i []) ts
        · rw [hq, if_neg (by simp)] at hC1
          rw [hC1] at hld
          refine amGo PT96_ok (h := ?_)
          refine k_lp (⟨i + 1, by omega⟩ : {i : Nat // i ≤ L.length}) (by first | omega | (dsimp only; omega)) ?_
          (refine weak_id rfl ?_ ?_ <;> ((try simp only [List.mem_cons, List.not_mem_nil, or_false, forall_eq_or_imp, forall_eq]); (try simp (disch := omega) [i64w, *])))
        · rw [hq, if_pos rfl] at hC1
          rw [hC1] at hld
          refine amGo PT96_ok (h := ?_)
          refine k_lp (⟨i + 1, by omega⟩ : {i : Nat // i ≤ L.length}) (by first | omega | (dsimp only; omega)) ?_
          (refine weak_id rfl ?_ ?_ <;> ((try simp only [List.mem_cons, List.not_mem_nil, or_false, forall_eq_or_imp, forall_eq]); (try simp (disch := omega) [i64w, *])))
      · obtain rfl : i = L.length := by omega
        clear hc
        refine amGo PT96_ok (h := ?_)
        ((refine post_ret (av := ?_) (by first | exact .inl rfl | exact .inr rfl) (show (Try.f5).results.toList = _ from by rw [Try.results5]) ?_ ?_); rotate_left; (focus (simp [retA, retL, ret1, lk, st, ldA, AV.cell]; rfl)); (try simp [*]))
theorem pdivide_p (N : Int) (L : List (List Int)) (ts : List Int) (hN : okI N = true) (hL : okLens L = true) (ht : okIL ts = true) : FnPure Try.prog 5 [aTh N L, aInts ts] (.v (.bool true)) := by
  by_cases hv : validT N L ts = true
  · cases hf : fewW L ts
    · unfold aTh
      refine fn_sp TT_ok Try.func5 (c := _) rfl (by simp [Try.ntmps5]) (fun B hI0 hro => ?_)
      rw [Try.ntmps5]
      simp only [enumA]
      refine amGo PT96_ok (h := ?_)
      ((refine post_ret (av := ?_) (by first | exact .inl rfl | exact .inr rfl) (show (Try.f5).results.toList = _ from by rw [Try.results5]) ?_ ?_); rotate_left; (focus (simp [retA, retL, ret1, lk, st, ldA, AV.cell]; rfl)); (try simp [*]))
    · exact pdivide_ok N L ts hN hL ht hv hf
  · exact pdivide_bad N L ts hN hL ht hv
namespace partsDivide
set_option maxRecDepth 100000 in
theorem lifted (os : Os) (started : os.Started) (H : Type) (enc : TypeId × Value → H) :
    ReturnsInHanded {} Try.checked os 5 .any (Rows.partsDivideSpec.pre6 enc Try.prog Go.Proofs.Try.f5 Rows.partsDivideRow.domain false) (Rows.partsDivideSpec.post enc Try.prog Go.Proofs.Try.f5 false true false false) := by
  refine returnsInHanded_of_change (C := Try.checked) (by kernel_rfl) started (by kernel_rfl) Try.func5
    (ChangeSpec.witness6 (enc := enc) (C := Try.checked) false ⟨#[], #[.agg #[.int .i64 0, .slice none 0 0], .slice none 0 0], []⟩ 8 (by kernel_rfl) (by kernel_rfl) (by kernel_rfl) (by kernel_rfl)) ?_
  intro W base args ds gs before hval0 hW hcnd _
  have hval : ∀ (j : Nat) t v, (Go.Proofs.Try.f5).params[j]? = some t → args[j]? = some v → Value.okWide Try.prog W .any base t v := hval0
  have hW2 := hW
  obtain ⟨p, q, hA0, hV, _, _, _⟩ := hW
  have hA : DataW.TrodAll enc Try.prog W 0 (fun _ => true) true (Go.Proofs.Try.f5).params.toList args.toList ds p := hA0
  rw [Try.params5] at hA hval
  clear hA0 hval0 hcnd
  obtain ⟨rfl, _⟩ := trodVars_none hV
  obtain ⟨v0, vs0, d0, ds0, p0, q0, hargs, rfl, _, h0, r0⟩ := trodAll_cons hA
  obtain ⟨v1, vs1, d1, ds1, p1, q1, rfl, rfl, _, h1, r1⟩ := trodAll_cons r0
  obtain ⟨rfl, rfl, _⟩ := trodAll_nil r1
  obtain rfl : args = #[v0, v1] := by cases args; simp_all
  obtain ⟨N, L, ra0, oN0, oL0⟩ := arg_th (hval 0 _ v0 rfl rfl) h0
  obtain ⟨ts, ra1, o1⟩ := arg_ints (hval 1 _ v1 rfl rfl) h1
  refine law_of_pure (glob0 _) (avs := [.agg [.v (.int .i64 N), aRows L], aInts ts]) (by kernel_rfl) hW2 rfl (rec_ok (by kernel_rfl)) (tb := 4) rfl Try.underlying4 rfl rfl rfl rfl (fun i hi => ?_) (pdivide_p N L ts oN0 oL0 o1)
  match i, hi with
  | 0, _ => exact ra0
  | 1, _ => exact ra1
theorem proved : Rows.PartsDivideSaid :=
  OpenClaim.holds_of_wide 5 Go.Proofs.Try.f5 rfl rfl rfl rfl rfl rfl rfl ⟨rfl, rfl, rfl, rfl, rfl⟩ rfl rfl rfl rfl rfl (by kernel_rfl) Try.func5 (by kernel_rfl)
    (of_decide_eq_true (by kernel_rfl)) (by unfold Func.isWrapper; first | (rw [if_pos (by decide +kernel)]; kernel_rfl) | (rw [if_neg (by decide +kernel)]; exact ⟨rfl, rfl⟩))
    (fun os started H enc _ => lifted os started H enc)
end partsDivide
end Go.Proofs.Ytekeidhndlnghaa
