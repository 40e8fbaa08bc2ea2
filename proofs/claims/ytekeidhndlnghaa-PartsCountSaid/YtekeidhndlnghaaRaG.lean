/- Contracts of the document's chapter 16 as rows of the table; no condition. -/
import Derived.Test.YtekeidhndlnghaaSame
import Derived.Test.YtekeidhndlnghaaFew
import Derived.Test.YtekeidhndlnghaaPt16
import Derived.Test.YtekeidhndlnghaaWa
import Derived.Test.YtekeidhndlnghaaAe16
/- Ta16: Contracts of the document's chapter 16 as rows of the table; no condition. -/
namespace Go.Proofs.Ytekeidhndlnghaa
set_option linter.unusedVariables false
set_option linter.unusedSimpArgs false
set_option linter.unusedSectionVars false
open Go.RowKit
set_option maxRecDepth 100000
@[simp] def g_r6Valid : List AV → Option (AV × Bool)
  | [.agg [.v (.int .i64 N), a0], a1] => (match toRows a0 with | some L => (match toInts a1 with | some ts => if (okI N && okRows L && okInts ts) = true then some (.v (.bool (validT N L ts)), true) else none | none => none) | none => none)
  | _ => none
theorem e_r6Valid : EntOk Try.prog 34 g_r6Valid := ent_fresh (by kernel_rfl) fun args r fr h => by
  unfold g_r6Valid at h
  split at h
  · rename_i N a0 a1
    split at h
    · rename_i L t0
      split at h
      · rename_i ts t1
        split at h
        · rename_i hc
          simp only [Bool.and_eq_true] at hc
          obtain ⟨⟨m0, o0⟩, o1⟩ := hc
          cases h
          exact fresh_gives (fun G => .v _) fun S w vs hS hn hv => by
            obtain ⟨u0, u1, rfl, r0, r1⟩ := args2 hn hv
            obtain ⟨z0, q0, p0⟩ := th_inv r0
            subst q0
            have q0 := rows_of hS p0 t0 o0
            have q1 := ints_of hS r1 t1 o1
            exact ref16valid_c N (okI_iff.1 m0) q0 q1
        · cases h
      · cases h
    · cases h
  · cases h

@[simp] def g_r6Left : List AV → Option (AV × Bool)
  | [a0, a1] => (match toInts a0 with | some xs => (match toInts a1 with | some ys => if (okInts xs && okInts ys) = true then some (.v (.bool (leftL xs ys)), true) else none | none => none) | none => none)
  | _ => none
theorem e_r6Left : EntOk Try.prog 22 g_r6Left := ent_fresh (by kernel_rfl) fun args r fr h => by
  unfold g_r6Left at h
  split at h
  · rename_i a0 a1
    split at h
    · rename_i xs t0
      split at h
      · rename_i ys t1
        split at h
        · rename_i hc
          simp only [Bool.and_eq_true] at hc
          obtain ⟨o0, o1⟩ := hc
          cases h
          exact fresh_same fun S w vs hS hn hv => by
            obtain ⟨u0, u1, rfl, r0, r1⟩ := args2 hn hv
            have q0 := ints_of hS r0 t0 o0
            have q1 := ints_of hS r1 t1 o1
            exact ref16Left_c q0 q1
        · cases h
      · cases h
    · cases h
  · cases h

@[simp] def g_r6Same : List AV → Option (AV × Bool)
  | [.agg [.v (.int .i64 N), a0], .agg [.v (.int .i64 M), a1]] => (match toRows a0 with | some L => (match toRows a1 with | some K => if (okI N && okRows L && okI M && okRows K) = true then some (.v (.bool (decide (N = M ∧ L = K))), true) else none | none => none) | none => none)
  | _ => none
theorem e_r6Same : EntOk Try.prog 19 g_r6Same := ent_fresh (by kernel_rfl) fun args r fr h => by
  unfold g_r6Same at h
  split at h
  · rename_i N a0 M a1
    split at h
    · rename_i L t0
      split at h
      · rename_i K t1
        split at h
        · rename_i hc
          simp only [Bool.and_eq_true] at hc
          obtain ⟨⟨⟨m0, o0⟩, m1⟩, o1⟩ := hc
          cases h
          exact fresh_gives (fun G => .v _) fun S w vs hS hn hv => by
            obtain ⟨u0, u1, rfl, r0, r1⟩ := args2 hn hv
            obtain ⟨z0, q0, p0⟩ := th_inv r0
            subst q0
            have q0 := rows_of hS p0 t0 o0
            obtain ⟨z1, q1, p1⟩ := th_inv r1
            subst q1
            have q1 := rows_of hS p1 t1 o1
            exact ref16SameTheory_c N M q0 q1
        · cases h
      · cases h
    · cases h
  · cases h

@[simp] def g_few6 : List AV → Option (AV × Bool)
  | [.agg [.v (.int .i64 N), a0], a1] => (match toRows a0 with | some L => (match toInts a1 with | some ts => if (okI N && okRows L && okInts ts) = true then some (.v (.bool (fewT L ts)), true) else none | none => none) | none => none)
  | _ => none
theorem e_few6 : EntOk Try.prog 10 g_few6 := ent_fresh (by kernel_rfl) fun args r fr h => by
  unfold g_few6 at h
  split at h
  · rename_i N a0 a1
    split at h
    · rename_i L t0
      split at h
      · rename_i ts t1
        split at h
        · rename_i hc
          simp only [Bool.and_eq_true] at hc
          obtain ⟨⟨m0, o0⟩, o1⟩ := hc
          cases h
          exact fresh_gives (fun G => .v _) fun S w vs hS hn hv => by
            obtain ⟨u0, u1, rfl, r0, r1⟩ := args2 hn hv
            obtain ⟨z0, q0, p0⟩ := th_inv r0
            subst q0
            have q0 := rows_of hS p0 t0 o0
            have q1 := ints_of hS r1 t1 o1
            exact few_c N q0 q1
        · cases h
      · cases h
    · cases h
  · cases h

@[simp] def g_r6Rest : List AV → Option (AV × Bool)
  | [a0, a1] => (match toInts a0 with | some xs => (match toInts a1 with | some ys => if (okInts xs && okInts ys && okL xs) = true then some (aInts (restL xs ys), true) else none | none => none) | none => none)
  | _ => none
theorem e_r6Rest : EntOk Try.prog 40 g_r6Rest := ent_fresh (by kernel_rfl) fun args r fr h => by
  unfold g_r6Rest at h
  split at h
  · rename_i a0 a1
    split at h
    · rename_i xs t0
      split at h
      · rename_i ys t1
        split at h
        · rename_i hc
          simp only [Bool.and_eq_true] at hc
          obtain ⟨⟨o0, o1⟩, hk⟩ := hc
          cases h
          exact fun S w vs hS hn hv => by
            obtain ⟨u0, u1, rfl, r0, r1⟩ := args2 hn hv
            have q0 := ints_of hS r0 t0 o0
            have q1 := ints_of hS r1 t1 o1
            exact (ref16Rest_c q0 q1 (okL_iff.1 hk)).mono fun e w2 h2 => by obtain ⟨v2, rfl, h3, h4⟩ := h2; exact ⟨v2, rfl, h4, rv_ints h3 fun _ _ _ h => fresh_new h⟩
        · cases h
      · cases h
    · cases h
  · cases h

end Go.Proofs.Ytekeidhndlnghaa
/- Ra16: censusref16.Alone; no condition. -/
namespace Go.Proofs.Ytekeidhndlnghaa
set_option linter.unusedVariables false
set_option linter.unusedSimpArgs false
set_option linter.unusedSectionVars false
open Go.RowKit
attribute [local simp] List.getD_cons_zero List.getD_cons_succ List.getD_nil undef gvars runL runE effA stepA dstOk wantA core lk st dl AS.ev AS.evs AS.put AS.upd updO updI nxt cPick cAlloc cBox cBuild cBuildS cLoad cStore cNil plainOf cBin cNilS isNilS nilA cUn cConvX cConvB cConv bytesOf rowB cMake cSlice slA idxA cFA cF cIA cIX cIS cI cExt cLen cApp cMM cFun cCall lenA lenM isNilM nilM cNilM cMakeM hintB cMapK cLook foundR lookR cUpd putM cDel delM findA isKeyB Instr.sameNow AS.entry AS.bound AS.callee sc1 sc2 ixOk ldA AV.flat AV.cell AV.cells Value.oneCell' fillA spl chunk zeros AS.parts AS.rows AS.shut AS.shut1 AS.shut2 AS.shutL AS.shutM AV.ids idsL idsLL eqAll bndA AV.scalar AV.scalar1 AV.isV Ef.app Ef.pk ptOf pntO wrO wr
attribute [-simp] List.getD_eq_getElem?_getD
set_option maxRecDepth 100000
def l87 : List (FuncId × (List AV → Option (AV × Bool))) :=
  (34, g_r6Valid) :: (22, g_r6Left) :: (40, g_r6Rest) :: (19, g_r6Same) :: (10, g_few6) :: l86
theorem l87_ok : ∀ p ∈ l87, EntOk Try.prog p.1 p.2 := ent_cons e_r6Valid (ent_cons e_r6Left (ent_cons e_r6Rest (ent_cons e_r6Same (ent_cons e_few6 (l86_ok)))))
def PT87 : PTab := tab l87
theorem PT87_ok : PTok Try.prog PT87 := tab_ok l87_ok
@[simp] theorem PT87_litVar : PT87 31 = g_litVar := rfl
@[simp] theorem PT87_litValid : PT87 57 = g_litValid := rfl
@[simp] theorem PT87_contains : PT87 50 = g_contains := rfl
@[simp] theorem PT87_check : PT87 47 = g_check := rfl
@[simp] theorem PT87_with : PT87 33 = g_with := rfl
@[simp] theorem PT87_without : PT87 30 = g_without := rfl
@[simp] theorem PT87_all : PT87 29 = g_all := rfl
@[simp] theorem PT87_rValid : PT87 55 = g_rValid := rfl
@[simp] theorem PT87_rHas : PT87 56 = g_rHas := rfl
@[simp] theorem PT87_rHolds : PT87 45 = g_rHolds := rfl
@[simp] theorem PT87_rAssign : PT87 44 = g_rAssign := rfl
@[simp] theorem PT87_rCheck : PT87 43 = g_rCheck := rfl
@[simp] theorem PT87_rEval : PT87 23 = g_rEval := rfl
@[simp] theorem PT87_litvalid : PT87 58 = g_litvalid := rfl
@[simp] theorem PT87_opposite : PT87 60 = g_opposite := rfl
@[simp] theorem PT87_clone : PT87 65 = g_clone := rfl
@[simp] theorem PT87_order : PT87 59 = g_order := rfl
@[simp] theorem PT87_term : PT87 48 = g_term := rfl
@[simp] theorem PT87_pRest : PT87 32 = g_pRest := rfl
@[simp] theorem PT87_pChk : PT87 27 = g_pChk := rfl
@[simp] theorem PT87_r6Valid : PT87 34 = g_r6Valid := rfl
@[simp] theorem PT87_r6Left : PT87 22 = g_r6Left := rfl
@[simp] theorem PT87_r6Rest : PT87 40 = g_r6Rest := rfl
@[simp] theorem PT87_r6Same : PT87 19 = g_r6Same := rfl
@[simp] theorem PT87_few6 : PT87 10 = g_few6 := rfl
def rAloneA (N : Int) (L : List (List Int)) (ts cs : List Int) : AV := if validT N L ts = true ∧ alnB L ts cs = true then .tup [aTh N (alnL L ts cs), .v (.int .i64 0)] else alnE
theorem alnB_no {L : List (List Int)} {ts cs : List Int} {k : Nat} (hk : k < cs.length) (h : alnG L ts (cs.getD k 0) = false) : alnB L ts cs = false := by
  cases hb : alnB L ts cs
  · rfl
  · have := List.all_eq_true.1 hb _ (getD_memI hk)
    unfold alnG at h
    rw [this] at h; cases h
set_option maxHeartbeats 4000000 in
theorem rAlone_p (N : Int) (L : List (List Int)) (ts cs : List Int) (hN : okI N = true) (hL : okRows L = true) (ht : okInts ts = true) (hcs : okInts cs = true) (hc4 : cs.length ≤ 4096) (hok : validT N L ts = true → L.all okL = true ∧ L.length ≤ 4096) : FnPure Try.prog 18 [aTh N L, aInts ts, aInts cs] (rAloneA N L ts cs) := by
  have hcn := okInts_len hcs
  have htn := okInts_len ht
  unfold aTh
  cases hv : validT N L ts
  · have hr : rAloneA N L ts cs = alnE := by unfold rAloneA; rw [hv]; simp
    rw [hr]
    unfold alnE
    refine fn_sp TT_ok Try.func18 (c := _) rfl (by simp [Try.ntmps18]) (fun B hI0 hro => ?_)
    rw [Try.ntmps18]
    simp only [enumA]
    refine amGo PT87_ok (h := ?_)
    ((refine post_ret (av := ?_) (by first | exact .inl rfl | exact .inr rfl) (show (Try.f18).results.toList = _ from by rw [Try.results18]) ?_ ?_); rotate_left; (focus (simp [retA, retL, ret1, lk, st, ldA, AV.cell]; rfl)); (try simp [*]))
  · obtain ⟨hal, l4⟩ := hok hv
    refine fn_sp TT_ok Try.func18 (c := _) rfl (by simp [Try.ntmps18]) (fun B hI0 hro => ?_)
    rw [Try.ntmps18]
    simp only [enumA]
    refine amGo PT87_ok (h := ?_)
    refine s_cnil 5 0 1 40 25 1 rfl rfl (by simp) ?_ (by decide)
    (refine s_eq (τ := ?_) ?_ ?_; rotate_left; (focus ((try simp only [AS.frz, List.map_cons, List.map_nil]); (try simp [frzV, frzO, frzC, List.filter]); rfl)))
    refine s_loop (J := fun i : {k : Nat // k ≤ cs.length ∧ ∀ j, j < k → alnG L ts (cs.getD j 0) = true} => ⟨62, [(1, aInts ts), (2, aInts cs), (3, .ptr 0 0 0), (6, .ptr 1 0 0), (7, .v (.int .i64 0)), (8, .ptr 5 0 0), (9, .v (.int .i64 (i.1 : Int)))], [(40, ⟨25, 1, (alnL L ts (cs.take i.1)).map fun r => [aInts r]⟩), (0, ⟨24, 2, [[.v (.int .i64 N), aRows L]]⟩), (1, ⟨24, 2, [[.v (.int .i64 0), .v (.slice none 0 0)]]⟩), (5, ⟨24, 2, [[.v (.int .i64 N), .ref 40 0 i.1]]⟩)], [40, 5, 1, 0]⟩) (μ := fun i => cs.length - i.1) ⟨0, Nat.zero_le _, fun j hj => by omega⟩ ?_ (fun ⟨k, hk, hgk⟩ => ?_)
    · have hk0 : alnL L ts [] = [] := rfl
      (refine weak_id rfl ?_ ?_ <;> ((try simp only [List.mem_cons, List.not_mem_nil, or_false, forall_eq_or_imp, forall_eq]); (try simp (disch := omega) [i64w, *])))
    have hkl : (alnL L ts (cs.take k)).length = k := by rw [alnL_len, List.length_take]; omega
    have c1 : (k + 1) * 24 ≤ 140737488355328 := by omega
    have hwk : IntKind.i64.wrap ((k : Int) + 1) = (k : Int) + 1 := i64s k (by omega)
    refine amStr (h := ?_)
    refine amReg PT87_ok (h := ?_)
    refine amStr (h := ?_)
    (focus ((with_reducible refine sp_cond (b := ?_) ?_ (fun hc => ?_) (fun hc => ?_)); rotate_left; (focus (first | rfl | (simp [lk, AS.ev]; rfl))); all_goals (try simp at hc)))
    · have hkk := hc
      clear hc
      have hts := alnL_succ L ts (cs := cs) (k := k) hkk
      have hstep : alnG L ts (cs.getD k 0) = true → ∀ j, j < k + 1 → alnG L ts (cs.getD j 0) = true := fun h j hj => by
        by_cases e : j = k
        · subst e; exact h
        · exact hgk j (by omega)
      have hno : alnG L ts (cs.getD k 0) = false → rAloneA N L ts cs = alnE := fun h => by unfold rAloneA; rw [alnB_no hkk h]; simp
      have hxi := okInts_mem hcs _ (getD_memI hkk)
      obtain ⟨x, hxe⟩ : ∃ x, cs.getD k 0 = x := ⟨_, rfl⟩
      rw [hxe] at hts hstep hxi hno
      by_cases hnx : x < 0
      · rw [hno (by unfold alnG; rw [show decide (0 ≤ x) = false from by simp; omega]; rfl)]
        clear hno hstep
        unfold alnE
        refine amGo PT87_ok (h := ?_)
        ((refine post_ret (av := ?_) (by first | exact .inl rfl | exact .inr rfl) (show (Try.f18).results.toList = _ from by rw [Try.results18]) ?_ ?_); rotate_left; (focus (simp [retA, retL, ret1, lk, st, ldA, AV.cell]; rfl)); (try simp [*]))
      by_cases hnl : (L.length : Int) ≤ x
      · rw [hno (by unfold alnG; rw [show decide (x < L.length) = false from by simp; omega]; simp)]
        clear hno hstep
        unfold alnE
        refine amGo PT87_ok (h := ?_)
        ((refine post_ret (av := ?_) (by first | exact .inl rfl | exact .inr rfl) (show (Try.f18).results.toList = _ from by rw [Try.results18]) ?_ ?_); rotate_left; (focus (simp [retA, retL, ret1, lk, st, ldA, AV.cell]; rfl)); (try simp [*]))
      have hci := okRows_at hL x.toNat
      have hokc : okL (L.getD x.toNat []) = true := List.all_eq_true.1 hal _ (getD_memL (k := x.toNat) (by omega))
      have x0 : 0 ≤ x := by omega
      have x1 : x < L.length := by omega
      have hmx : max x 0 = x := by omega
      have hx2 : x.toNat < L.length := by omega
      have hgG : alnG L ts x = leftL (L.getD x.toNat []) ts := by
        unfold alnG
        rw [show decide (0 ≤ x) = true from by simp; omega, show decide (x < L.length) = true from by simp; omega]; rfl
      rw [hgG] at hstep hno
      obtain ⟨c, hcc⟩ : ∃ c, L.getD x.toNat [] = c := ⟨_, rfl⟩
      rw [hcc] at hts hci hokc hstep hno
      clear hgG
      cases hlf : leftL c ts
      · rw [hno hlf]
        clear hstep hno
        unfold alnE
        refine amGo PT87_ok (h := ?_)
        ((refine post_ret (av := ?_) (by first | exact .inl rfl | exact .inr rfl) (show (Try.f18).results.toList = _ from by rw [Try.results18]) ?_ ?_); rotate_left; (focus (simp [retA, retL, ret1, lk, st, ldA, AV.cell]; rfl)); (try simp [*]))
      · have hst := hstep hlf
        clear hstep hno
        refine amGo PT87_ok (h := ?_)
        refine k_lp (⟨k + 1, by omega, hst⟩ : {k : Nat // k ≤ cs.length ∧ ∀ j, j < k → alnG L ts (cs.getD j 0) = true}) (by show cs.length - (k + 1) < cs.length - k; omega) ?_
        (refine weak_of (fun q => if q = 40 then 51 else q) ⟨rfl, ?_, ?_, ?_⟩ <;> ((try simp only [List.mem_cons, List.not_mem_nil, or_false, forall_eq_or_imp, forall_eq]); (try simp (disch := omega) [lk, AV.ids, idsL, idsLL, AV.ren, renL, renLL, i64w, *])))
    · obtain rfl : k = cs.length := by omega
      clear hc
      have hb : alnB L ts cs = true := by
        refine List.all_eq_true.2 fun i hi => ?_
        obtain ⟨j, hj, rfl⟩ := List.getElem_of_mem hi
        have := hgk j hj
        have e : cs.getD j 0 = cs[j] := by simp [List.getD, hj]
        rw [e] at this
        exact this
      have hr : rAloneA N L ts cs = .tup [.agg [.v (.int .i64 N), aRows (alnL L ts cs)], .v (.int .i64 0)] := by unfold rAloneA; rw [if_pos ⟨hv, hb⟩]; rfl
      rw [hr]
      rw [List.take_length] at hkl ⊢
      clear hr
      have htk : ((alnL L ts cs).map fun r => [aInts r]).take cs.length = (alnL L ts cs).map fun r => [aInts r] := List.take_of_length_le (by simp [hkl])
      have hid : idsLL ((alnL L ts cs).map fun r => [aInts r]) = [] := by show (aRows (alnL L ts cs)).ids = []; simp
      refine amGo PT87_ok (h := ?_)
      ((refine post_ret (av := ?_) (by first | exact .inl rfl | exact .inr rfl) (show (Try.f18).results.toList = _ from by rw [Try.results18]) ?_ ?_); rotate_left; (focus (simp [retA, retL, ret1, lk, st, ldA, AV.cell]; rfl)); (try simp [*]))
      all_goals (try simp [aRows])
end Go.Proofs.Ytekeidhndlnghaa
