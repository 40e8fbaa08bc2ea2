/- A nil slice in an object's cell as an array without elements; plain lemmas over any program; no condition. -/
import Derived.Test.YtllkogdgmmcfgaaGreatDoorAmB
import Derived.Test.YtllkogdgmmcfgaaGreatDoorThG
import Derived.Test.YtllkogdgmmcfgaaGreatDoorCvG
import Derived.Test.YtllkogdgmmcfgaaGreatDoorWa
import Derived.Test.YtllkogdgmmcfgaaGreatDoorWl
/- Nil: A nil slice in an object's cell as an array without elements; plain lemmas over any program; no condition. -/
namespace Go.Proofs.YtllkogdgmmcfgaaGreatDoor
set_option linter.unusedVariables false
set_option linter.unusedSimpArgs false
set_option linter.unusedSectionVars false
open Go.RowKit

theorem R.empty {B : Base} {G : Gh} {σ : AS} {w : World} {a : Act} (hr : R B G σ w a) (id : Nat) (e : TypeId) (sz : Nat) (hid : id ∉ σ.ids) (hz : 0 < sz) : G.le (G.add id (none, 0, 0, sz)) ∧ R B (G.add id (none, 0, 0, sz)) ⟨σ.n, σ.slots, (id, ⟨e, sz, []⟩) :: σ.objs, id :: σ.ids⟩ w a := by
 have hn : G.loc id = none := by
  cases hl : G.loc id with
  | none => rfl
  | some l => exact absurd (hr.ids id (by rw [hl]; simp)) hid
 have hle : G.le (G.add id (none, 0, 0, sz)) := Gh.add_le hn
 have hh := hr.heap
 have hold : ∀ k ob, lk ((id, (⟨e, sz, []⟩ : AObj)) :: σ.objs) k = some ob → k = id ∧ ob = ⟨e, sz, []⟩ ∨ k ≠ id ∧ lk σ.objs k = some ob := fun k ob hk => by
  simp only [lk] at hk
  split at hk
  ·rename_i e1; cases hk; exact .inl ⟨e1.symm, rfl⟩
  ·rename_i e1; exact .inr ⟨Ne.symm e1, hk⟩
 have hloc : ∀ k, k ≠ id → (G.add id (none, 0, 0, sz)).loc k = G.loc k := fun k hk => if_neg hk
 have hl0 : (G.add id (none, 0, 0, sz)).loc id = some (none, 0, 0, sz) := Gh.add_self
 refine ⟨hle, hr.n, fun s av hs => ?_, hr.defers, ⟨hh.os, hh.tape, hh.output, hh.size, hh.old, fun k ob hk => ?_, fun k ob hk b base cap z hl => ?_, fun k k' ob ob' hk hk' b x y hl hl' => ?_, hh.st, fun k ob hk b x hl => ?_, hh.fresh, hh.keep, fun k l hk => hle.loc _ _ (hh.fix k l hk), hh.pin, hh.base⟩, fun k hk => ?_⟩
 ·exact ⟨(hr.slot s av hs).1, (hr.slot s av hs).2.mono hle⟩
 ·rcases hold k ob hk with ⟨rfl, rfl⟩ | ⟨h1, h2⟩
  ·exact .of hz ⟨none, 0, 0, hl0, Nat.le_refl _, by omega, fun i hi => by simp at hi, rfl⟩
  ·exact (hh.obj k ob h2).mono hle fun _ _ _ _ _ => rfl
 ·rcases hold k ob hk with ⟨rfl, rfl⟩ | ⟨h1, h2⟩
  ·rw [hl0] at hl; cases hl
  ·rw [hloc k h1] at hl; exact hh.own k ob h2 _ _ _ _ hl
 ·rcases hold k ob hk with ⟨rfl, rfl⟩ | ⟨h1, h2⟩
  ·rw [hl0] at hl; cases hl
  ·rcases hold k' ob' hk' with ⟨rfl, rfl⟩ | ⟨h3, h4⟩
   ·rw [hl0] at hl'; cases hl'
   ·rw [hloc k h1] at hl; rw [hloc k' h3] at hl'
    exact hh.inj k k' ob ob' h2 h4 _ _ _ hl hl'
 ·rcases hold k ob hk with ⟨rfl, rfl⟩ | ⟨h1, h2⟩
  ·rw [hl0] at hl; cases hl
  ·rw [hloc k h1] at hl; exact hh.sep k ob h2 _ _ hl
 ·by_cases h1 : k = id
  ·subst h1; exact List.mem_cons_self
  ·rw [hloc k h1] at hk; exact List.mem_cons_of_mem _ (hr.ids k hk)
theorem R.recell {B : Base} {G : Gh} {σ : AS} {w : World} {a : Act} (hr : R B G σ w a) (k e j : Nat) {old new : AV} {ob : AObj} (hk : lk σ.objs k = some ob) (h : (ob.xs.getD e []).getD j .any = old) (hnew : ∀ v, Rv G old v → Rv G new v) (hz : 0 < ob.sz) : R B G ⟨σ.n, σ.slots, st σ.objs k { ob with xs := ob.xs.set e ((ob.xs.getD e []).set j new) }, σ.ids⟩ w a := by
 have hh := hr.heap
 have hold : ∀ q ob', lk (st σ.objs k { ob with xs := ob.xs.set e ((ob.xs.getD e []).set j new) }) q = some ob' → ∃ ob0, lk σ.objs q = some ob0 ∧ ((q = k ∧ ob0 = ob ∧ ob' = { ob with xs := ob.xs.set e ((ob.xs.getD e []).set j new) }) ∨ ob' = ob0) := fun q ob' hq => by
  rw [lk_st] at hq
  split at hq
  ·rename_i e1; subst e1; cases hq; exact ⟨ob, hk, .inl ⟨rfl, rfl, rfl⟩⟩
  ·exact ⟨ob', hq, .inr rfl⟩
 refine ⟨hr.n, hr.slot, hr.defers, ⟨hh.os, hh.tape, hh.output, hh.size, hh.old, fun q ob' hq => ?_, fun q ob' hq => ?_, fun q q' ob1 ob2 hq hq' => ?_, hh.st, fun q ob' hq => ?_, hh.fresh, hh.keep, hh.fix, hh.pin, hh.base⟩, hr.ids⟩
 ·obtain ⟨ob0, h1, h2⟩ := hold q ob' hq
  rcases h2 with ⟨rfl, rfl, rfl⟩ | rfl
  ·obtain ⟨blk, base, cap, g1, g2, g3, g4, g5⟩ := (hh.obj q _ h1).cells hz
   have hget : ∀ i, (ob0.xs.set e ((ob0.xs.getD e []).set j new)).getD i [] = if i = e ∧ e < ob0.xs.length then (ob0.xs.getD e []).set j new else ob0.xs.getD i [] := fun i => by
    by_cases h1 : i = e
    ·subst h1
     by_cases h2 : i < ob0.xs.length
     ·simp [List.getD, h2]
     ·simp [List.getD, h2]
    ·simp [List.getD, List.getElem?_set, Ne.symm h1, h1]
   refine .of hz ⟨blk, base, cap, g1, by simpa using g2, g3, fun i hi => ?_, ?_⟩
   ·simp only [List.length_set] at hi
    rw [hget]
    split
    ·rename_i h2; rw [List.length_set]; obtain ⟨rfl, _⟩ := h2; exact g4 _ hi
    ·exact g4 i hi
   ·cases blk with
    | none => exact g5
    | some b =>
     obtain ⟨vs, g6, g7, g8⟩ := g5
     refine ⟨vs, g6, g7, fun i l hi hl => ?_⟩
     simp only [List.length_set] at hi
     obtain ⟨g9, g10⟩ := g8 i l hi hl
     refine ⟨g9, ?_⟩
     rw [hget]
     split
     ·rename_i h2
      obtain ⟨rfl, h3⟩ := h2
      by_cases hjl : l = j
      ·subst hjl
       rw [h] at g10
       have hlen : l < (ob0.xs.getD i []).length := by rw [g4 i hi]; exact hl
       have : ((ob0.xs.getD i []).set l new).getD l .any = new := by
        generalize ob0.xs.getD i [] = r at hlen
        simp [List.getD, hlen]
       rw [this]
       exact hnew _ g10
      ·have : ((ob0.xs.getD i []).set j new).getD l .any = (ob0.xs.getD i []).getD l .any := by simp [List.getD, List.getElem?_set, Ne.symm hjl]
       rw [this]; exact g10
     ·exact g10
  ·exact hh.obj q _ h1
 ·obtain ⟨ob0, h1, _⟩ := hold q ob' hq; exact fun b base cap z hl => hh.own q ob0 h1 b base cap z hl
 ·obtain ⟨o1, h1, _⟩ := hold q ob1 hq
  obtain ⟨o2, h2, _⟩ := hold q' ob2 hq'
  exact fun b x y => hh.inj q q' o1 o2 h1 h2 b x y
 ·obtain ⟨ob0, h1, _⟩ := hold q ob' hq; exact fun b x hl => hh.sep q ob0 h1 b x hl
theorem s_cnil {P : Program} {B : Base} {c : Code} {σ : AS} {Q : Exit → AS → Prop} (k e j id : Nat) (et : TypeId) (sz : Nat) {ob : AObj} (hk : lk σ.objs k = some ob) (h : (ob.xs.getD e []).getD j .any = .v (.slice none 0 0)) (hid : id ∉ σ.ids)
  (kk : SP P B c ⟨σ.n, σ.slots, st ((id, ⟨et, sz, []⟩) :: σ.objs) k { ob with xs := ob.xs.set e ((ob.xs.getD e []).set j (.ref id 0 0)) }, id :: σ.ids⟩ Q) (hne : id ≠ k) (hz : 0 < ob.sz := by exact Nat.succ_pos _) (hsz : 0 < sz := by decide) : SP P B c σ Q := fun D0 G w a hr => by
 obtain ⟨h1, h2⟩ := hr.empty id et sz hid hsz
 refine kk D0 _ w a (h2.recell k e j (by show (if id = k then _ else lk σ.objs k) = _; rw [if_neg hne]; exact hk) h (fun v hv => ?_) hz)
 rw [hv.v_eq]
 exact .ref id 0 0 none 0 0 sz none Gh.add_self (Nat.le_refl _) (by omega) (fun h => by omega) (fun _ => rfl)
end Go.Proofs.YtllkogdgmmcfgaaGreatDoor
/- Gi0: What theory.Given looks at; no condition. -/
namespace Go.Proofs.YtllkogdgmmcfgaaGreatDoor
set_option linter.unusedVariables false
set_option linter.unusedSimpArgs false
set_option linter.unusedSectionVars false
open Go.RowKit
attribute [local simp] List.getD_cons_zero List.getD_cons_succ List.getD_nil undef gvars runL runE effA stepA dstOk wantA core lk st dl AS.ev AS.evs AS.put AS.upd updO updI nxt cPick cAlloc cBox cBuild cBuildS cLoad cStore cNil plainOf cBin cNilS isNilS nilA cUn cConvX cConvB cConv bytesOf rowB cMake cSlice slA idxA cFA cF cIA cIX cIS cI cExt cLen cApp cMM cFun cCall lenA lenM isNilM nilM cNilM cMakeM hintB cMapK cLook foundR lookR cUpd putM cDel delM findA isKeyB Instr.sameNow AS.entry AS.bound AS.callee sc1 sc2 ixOk ldA AV.flat AV.cell AV.cells Value.oneCell' fillA spl chunk zeros AS.parts AS.rows AS.shut AS.shut1 AS.shut2 AS.shutL AS.shutM AV.ids idsL idsLL eqAll bndA AV.scalar AV.scalar1 AV.isV Ef.app Ef.pk ptOf pntO wrO wr
set_option maxRecDepth 100000

def openC (ts c : List Int) : Bool := !(c.any fun l => decide (l ∈ ts))
def restC (ts c : List Int) : List Int := c.filter fun l => !decide (-l ∈ ts)
def givenK (ts : List Int) (L : List (List Int)) (k : Nat) : List (List Int) := ((L.take k).filter (openC ts)).map (restC ts)
def givenT (ts : List Int) (L : List (List Int)) : List (List Int) := (L.filter (openC ts)).map (restC ts)
def givenA (N : Int) (L : List (List Int)) (ts : List Int) : AV := if checkT N L = 0 then (if termR N ts = true then .tup [aTh N (givenT ts L), .v (.int .i64 0)] else .tup [.agg [.v (.int .i64 0), .v (.slice none 0 0)], .v (.int .i64 1)]) else .tup [.agg [.v (.int .i64 0), .v (.slice none 0 0)], .v (.int .i64 (checkT N L))]
theorem altK_iff {ts : List Int} : ∀ {k : Nat}, altK ts k = true ↔ ∃ i : Nat, i < k ∧ ((i : Int) + 1) ∈ ts ∧ -((i : Int) + 1) ∈ ts := by
 intro k
 unfold altK
 simp only [List.any_eq_true, List.mem_range, Bool.and_eq_true, decide_eq_true_eq]
theorem term_some {N : Int} {ts : List Int} (hN : 0 ≤ N ∧ N ≤ 128) : (termL ts N).isSome = termR N ts := by
 unfold termL
 by_cases hv : (ts.all fun y => litOk y N) = true
 ·have hv' := List.all_eq_true.1 hv
  rw [hv, adjOpp_altK hN hv', Bool.true_and]
  cases ha : altK ts N.toNat
  ·have : termR N ts = true := by
    unfold termR
    rw [List.all_eq_true]
    intro x hx
    obtain ⟨r1, r2, r3, r4, r5⟩ := litOk_range (hv' x hx)
    rw [hv' x hx, Bool.true_and, Bool.not_eq_true', decide_eq_false_iff_not]
    intro hm
    have : altK ts N.toNat = true := by
     rw [altK_iff]
     by_cases hx0 : 0 < x
     ·exact ⟨(x - 1).toNat, by omega, by rw [show (((x - 1).toNat : Nat) : Int) + 1 = x by omega]; exact hx, by rw [show (((x - 1).toNat : Nat) : Int) + 1 = x by omega]; exact hm⟩
     ·exact ⟨(-x - 1).toNat, by omega, by rw [show (((-x - 1).toNat : Nat) : Int) + 1 = -x by omega]; exact hm, by rw [show (((-x - 1).toNat : Nat) : Int) + 1 = -x by omega, Int.neg_neg]; exact hx⟩
    rw [ha] at this; cases this
   rw [this]; rfl
  ·obtain ⟨i, hi, h1, h2⟩ := altK_iff.1 ha
   have : termR N ts = false := by
    unfold termR
    rw [List.all_eq_false]
    refine ⟨_, h1, ?_⟩
    rw [decide_eq_true h2]; simp
   rw [this]; rfl
 ·have hv2 : (ts.all fun y => litOk y N) = false := by simpa using hv
  have : termR N ts = false := by
   unfold termR
   rw [List.all_eq_false] at hv2 ⊢
   obtain ⟨x, hx, h⟩ := hv2
   exact ⟨x, hx, by simp at h; simp [h]⟩
  rw [hv2, this]; rfl
theorem givenK_succ {ts : List Int} {L : List (List Int)} {k : Nat} (hk : k < L.length) : givenK ts L (k + 1) = if openC ts (L.getD k []) = true then givenK ts L k ++ [restC ts (L.getD k [])] else givenK ts L k := by
 have : L.getD k [] = L[k] := by simp [List.getD, hk]
 unfold givenK
 rw [List.take_succ_eq_append_getElem hk, List.filter_append, List.map_append, this]
 by_cases h : openC ts L[k] = true
 ·rw [if_pos h]; simp [h]
 ·rw [if_neg h]; simp [h]
theorem givenK_len (ts : List Int) (L : List (List Int)) (k : Nat) : (givenK ts L k).length ≤ k := by
 unfold givenK
 rw [List.length_map]
 exact Nat.le_trans (List.length_filter_le _ _) (by simp; omega)
theorem restC_succ {ts c : List Int} {j : Nat} (hj : j < c.length) : restC ts (c.take (j + 1)) = if -(c.getD j 0) ∈ ts then restC ts (c.take j) else restC ts (c.take j) ++ [c.getD j 0] := by
 have : c.getD j 0 = c[j] := by simp [List.getD, hj]
 unfold restC
 rw [List.take_succ_eq_append_getElem hj, List.filter_append, this]
 by_cases h : -c[j] ∈ ts
 ·rw [if_pos h]; simp [h]
 ·rw [if_neg h]; simp [h]
theorem restC_len (ts c : List Int) : (restC ts c).length ≤ c.length := List.length_filter_le _ _
theorem known_of {objs : List (Nat × AObj)} {ids : List Nat} (h : ∀ p ∈ objs, p.1 ∈ ids ∧ ∀ q ∈ idsLL p.2.xs, q ∈ ids) : Known objs ids := fun k ob hk => h (k, ob) (mem_lk hk)
def isK (ts : List Int) (k : Nat) : List AV := bRow 257 fun i => decide ((i : Int) - 128 ∈ ts.take k)
@[simp ↓ high] theorem d_is_len (ts : List Int) (k : Nat) : (isK ts k).length = 257 := d_len_b _ _
@[simp ↓ high] theorem d_is_ids (ts : List Int) (k : Nat) : idsL (isK ts k) = [] := d_ids_b _ _
@[simp ↓ high] theorem d_is_ren (ρ : Nat → Nat) (ts : List Int) (k : Nat) : renL ρ (isK ts k) = isK ts k := d_ren_b _ _ _
theorem take_mem_succ {ts : List Int} {k : Nat} (hk : k < ts.length) (y : Int) : y ∈ ts.take (k + 1) ↔ y ∈ ts.take k ∨ y = ts.getD k 0 := by
 have : ts.getD k 0 = ts[k] := by simp [List.getD, hk]
 rw [List.take_succ_eq_append_getElem hk, this, List.mem_append, List.mem_singleton]
@[simp high] theorem d_is_spl {ts : List Int} {k j : Nat} (hk : k < ts.length) (hj : 128 + ts.getD k 0 = (j : Int)) (hj2 : j < 257) : spl (isK ts k) j [.v (.bool true)] = isK ts (k + 1) := by
 unfold isK
 rw [b_spl true hj2]
 congr 1
 funext i
 by_cases e : i = j
 ·subst e
  rw [if_pos rfl, eq_comm, decide_eq_true_eq, take_mem_succ hk]
  exact .inr (by omega)
 ·rw [if_neg e, decide_eq_decide, take_mem_succ hk]
  constructor
  ·exact .inl
  ·rintro (h | h)
   ·exact h
   ·omega
theorem is_getD (ts : List Int) (k : Nat) {j : Nat} (hj : j < 257) : (isK ts k).getD j .any = .v (.bool (decide ((j : Int) - 128 ∈ ts.take k))) := fn_getD _ hj
@[simp high] theorem d_is_ld {ti : TI} {ts : List Int} {k j : Nat} (hg : ti.agg = false) (hj : j < 257) : ldA ti (List.drop j (isK ts k)) = .v (.bool (decide ((j : Int) - 128 ∈ ts.take k))) := ld_fn hg hj
theorem open11_looks (N : Int) (L : List (List Int)) (ts c : List Int) (objs : List (Nat × AObj)) (ids : List Nat) (hc : ∀ y ∈ c, -128 ≤ y ∧ y ≤ 128) (h8 : lk objs 8 = some ⟨103, 1, [[.ptr 2 0 0]]⟩) (h2 : lk objs 2 = some ⟨99, 257, [isK ts ts.length]⟩) : Looks Tryz.prog objs ids 107 [.ptr 8 0 0] (avI c) (onI fun y => decide (y ∈ ts)) := by
 refine ⟨by kernel_rfl, _, _, Tryz.func107, rfl, by simp [Tryz.ntmps107], fun x hxm B hI hro => ?_⟩
 obtain ⟨y, hy, rfl⟩ := List.mem_map.1 hxm
 obtain ⟨r1, r2⟩ := hc y hy
 have hw : IntKind.i64.wrap (128 + y) = 128 + y := i64w (by omega) (by omega)
 have hi0 : 0 ≤ 128 + y := by omega
 have hi1 : 128 + y < 257 := by omega
 have hmx : max (128 + y) 0 = 128 + y := by omega
 have hi2 : (128 + y).toNat < 257 := by omega
 have hi3 : 128 + y ≤ 256 := by omega
 have hy2 : 128 + y - 128 = y := by omega
 rw [Tryz.ntmps107, Tryz.results107]
 simp only [enumA]
 repeat (first | with_reducible first | refine s_seq ?_ | refine k_seq ?_ | refine k_seq_ret ?_ | refine k_seq_exit ?_ | refine k_blk ?_ | refine k_blk_ret ?_ | refine k_blk_exit ?_ | refine k_lp_ret ?_ | refine k_lp_exit ?_ | refine ki_lp_ret ?_ | refine ki_lp_exit ?_ | refine s_block ?_ | refine sp_skip ?_ | refine sp_ret ?_ | refine sp_exit ?_ | ((with_reducible refine k_blk_out ?_ ?_); (focus decide)) | ((with_reducible refine s_cond_t ?_ ?_); (focus (simp [-List.getD_eq_getElem?_getD, *]; done))) | ((with_reducible refine s_cond_f ?_ ?_); (focus (simp [-List.getD_eq_getElem?_getD, *]; done))) | (focus ((with_reducible refine s_region2 (q := ?_) (σ' := ?_) TT_ok PT15_ok ?_ ?_ ?_); rotate_left 2; (focus (first | (simp; exact Eq.refl _) | exact Eq.refl _)); (focus ((repeat (((with_reducible refine runL_cons (σ1 := ?_) ?_ ?_); rotate_left; (focus (simp [-List.getD_eq_getElem?_getD, *]; rfl))))); (exact runL_nil))))) | (focus ((with_reducible refine s_draw2 (q := ?_) (es := ?_) (σ' := ?_) prog_mixed TT_ok PT15_ok ?_ ?_ ?_ ?_); rotate_left 3; (focus (first | (simp; exact Eq.refl _) | exact Eq.refl _)); (focus ((repeat (((with_reducible refine runE_cons (e := ?_) (σ1 := ?_) (es := ?_) ?_ ?_ ?_); rotate_left 3; (focus (simp [-List.getD_eq_getElem?_getD, *]; exact Eq.refl _)); (focus (simp [-List.getD_eq_getElem?_getD]; exact Eq.refl _))))); (exact runE_nil))); (focus (first | kernel_rfl | decide)))))
 refine ⟨.inr rfl, ?_, rfl, rfl⟩
 simp [retA, retL, ret1, lk, st, onI]
 rw [← List.getD_eq_getElem?_getD, is_getD ts ts.length hi2, List.take_length, show (((128 + y).toNat : Nat) : Int) - 128 = y by omega]
end Go.Proofs.YtllkogdgmmcfgaaGreatDoor
/- Lt: Contract of censuslaw05.Light, by the abstract machine; no condition. -/
namespace Go.Proofs.YtllkogdgmmcfgaaGreatDoor
set_option linter.unusedVariables false
set_option linter.unusedSimpArgs false
set_option linter.unusedSectionVars false
open Go.RowKit
set_option maxRecDepth 100000

def lightB (L : List (List Int)) : Bool := L.all (fun c => decide (c.length ≤ 140)) && decide (L.length ≤ 60)
def l16 : List (FuncId × (List AV → Option (AV × Bool))) :=
 l15
theorem l16_ok : ∀ p ∈ l16, EntOk Tryz.prog p.1 p.2 := l15_ok
def PT16 : PTab := tab l16
theorem PT16_ok : PTok Tryz.prog PT16 := tab_ok l16_ok
@[simp] theorem PT16_old (f : FuncId) : PT16 f = PT15 f := rfl
end Go.Proofs.YtllkogdgmmcfgaaGreatDoor
/- Gi1: Contract of theory.Given, by the abstract machine; no condition. -/
namespace Go.Proofs.YtllkogdgmmcfgaaGreatDoor
set_option linter.unusedVariables false
set_option linter.unusedSimpArgs false
set_option linter.unusedSectionVars false
open Go.RowKit
attribute [local simp] List.getD_cons_zero List.getD_cons_succ List.getD_nil undef gvars runL runE effA stepA dstOk wantA core lk st dl AS.ev AS.evs AS.put AS.upd updO updI nxt cPick cAlloc cBox cBuild cBuildS cLoad cStore cNil plainOf cBin cNilS isNilS nilA cUn cConvX cConvB cConv bytesOf rowB cMake cSlice slA idxA cFA cF cIA cIX cIS cI cExt cLen cApp cMM cFun cCall lenA lenM isNilM nilM cNilM cMakeM hintB cMapK cLook foundR lookR cUpd putM cDel delM findA isKeyB Instr.sameNow AS.entry AS.bound AS.callee sc1 sc2 ixOk ldA AV.flat AV.cell AV.cells Value.oneCell' fillA spl chunk zeros AS.parts AS.rows AS.shut AS.shut1 AS.shut2 AS.shutL AS.shutM AV.ids idsL idsLL eqAll bndA AV.scalar AV.scalar1 AV.isV Ef.app Ef.pk ptOf pntO wrO wr
set_option maxRecDepth 100000
theorem amOwn7900 {PT : PTab} (hp : PTok Tryz.prog PT) {G H : Prop} (t : PTok Tryz.prog PT → Hold H → G := by intro hp hq; (repeat (first | with_reducible first | refine s_seq ?_ | refine k_seq ?_ | refine k_seq_ret ?_ | refine k_seq_exit ?_ | refine k_blk ?_ | refine k_blk_ret ?_ | refine k_blk_exit ?_ | refine k_lp_ret ?_ | refine k_lp_exit ?_ | refine ki_lp_ret ?_ | refine ki_lp_exit ?_ | refine s_block ?_ | refine sp_skip ?_ | refine sp_ret ?_ | refine sp_exit ?_ | ((with_reducible refine k_blk_out ?_ ?_); (focus decide)) | ((with_reducible refine s_cond_t ?_ ?_); (focus (simp [-List.getD_eq_getElem?_getD, *]; done))) | ((with_reducible refine s_cond_f ?_ ?_); (focus (simp [-List.getD_eq_getElem?_getD, *]; done))) | (focus ((with_reducible refine s_region2 (q := ?_) (σ' := ?_) TT_ok hp ?_ ?_ ?_); rotate_left 2; (focus (first | (simp; exact Eq.refl _) | exact Eq.refl _)); (focus ((repeat (((with_reducible refine runL_cons (σ1 := ?_) ?_ ?_); rotate_left; (focus (simp [-List.getD_eq_getElem?_getD, *]; rfl))))); (exact runL_nil))))) | (focus ((with_reducible refine s_draw2 (q := ?_) (es := ?_) (σ' := ?_) prog_mixed TT_ok hp ?_ ?_ ?_ ?_); rotate_left 3; (focus (first | (simp; exact Eq.refl _) | exact Eq.refl _)); (focus ((repeat (((with_reducible refine runE_cons (e := ?_) (σ1 := ?_) (es := ?_) ?_ ?_ ?_); rotate_left 3; (focus (simp [-List.getD_eq_getElem?_getD, *]; exact Eq.refl _)); (focus (simp [-List.getD_eq_getElem?_getD]; exact Eq.refl _))))); (exact runE_nil))); (focus (first | kernel_rfl | decide)))))); exact hq.out) (h : H) : G := t hp ⟨h⟩
theorem given_ok (N : Int) (L : List (List Int)) (ts : List Int) (hN : okI N = true) (h : okRows L = true) (ht : okInts ts = true) (hz : checkT N L = 0) (hr : termR N ts = true) : FnPure Tryz.prog 45 [aTh N L, aInts ts] (.tup [aTh N (givenT ts L), .v (.int .i64 0)]) := by
 have hck := checkT_ok hz
 have hm := okRows_len h
 have hmt := okInts_len ht
 have htm := term_some (ts := ts) ⟨hck.1, hck.2.1⟩
 rw [hr] at htm
 unfold aTh
 refine fn_sp TT_ok Tryz.func45 (c := _) rfl (by simp [Tryz.ntmps45]) (fun B hI0 hro => ?_)
 rw [Tryz.ntmps45]
 simp only [enumA]
 refine amOwn7900 PT15_ok (h := ?_)
 refine s_loop (J := fun i : {k : Nat // k ≤ ts.length} => ⟨72, [(2, .ptr 0 0 0), (4, .ptr 1 0 0), (9, .ptr 2 0 0), (33, aInts ts), (34, .v (.int .i64 (ts.length : Int))), (35, .v (.int .i64 (i.1 : Int)))], [(0, ⟨24, 2, [[.v (.int .i64 N), aRows L]]⟩), (1, ⟨24, 2, [[.v (.int .i64 0), .v (.slice none 0 0)]]⟩), (2, ⟨99, 257, [isK ts i.1]⟩)], [2, 1, 0]⟩) (μ := fun i => ts.length - i.1) ⟨0, Nat.zero_le _⟩ ?_ (fun ⟨k, hk⟩ => ?_)
 ·(refine weak_id rfl ?_ ?_ <;> ((try simp only [List.mem_cons, List.not_mem_nil, or_false, forall_eq_or_imp, forall_eq]); (try simp (disch := omega) [-List.getD_eq_getElem?_getD, i64w, *])))
  kernel_rfl
 refine amOwn7900 PT15_ok (h := ?_)
 (focus ((with_reducible refine sp_cond (b := ?_) ?_ (fun hc => ?_) (fun hc => ?_)); rotate_left; (focus (first | rfl | (simp [lk, AS.ev]; rfl))); all_goals (try simp [-List.getD_eq_getElem?_getD] at hc)))
 ·have hkk := hc
  clear hc
  obtain ⟨r1, r2, r3, r4, r5⟩ := litOk_range (show litOk (ts.getD k 0) N = true from (Bool.and_eq_true_iff.1 (List.all_eq_true.1 hr _ (getD_memI hkk))).1)
  have hw : IntKind.i64.wrap (128 + ts.getD k 0) = 128 + ts.getD k 0 := i64w (by omega) (by omega)
  have hi0 : 0 ≤ 128 + ts.getD k 0 := by omega
  have hi1 : 128 + ts.getD k 0 < 257 := by omega
  have hmx : max (128 + ts.getD k 0) 0 = 128 + ts.getD k 0 := by omega
  have hi2 : (128 + ts.getD k 0).toNat < 257 := by omega
  have hi3 : 128 + ts.getD k 0 ≤ 256 := by omega
  refine amOwn7900 PT15_ok (h := ?_)
  refine k_lp (⟨k + 1, by omega⟩ : {k : Nat // k ≤ ts.length}) (by dsimp only; omega) ?_
  (refine weak_id rfl ?_ ?_ <;> ((try simp only [List.mem_cons, List.not_mem_nil, or_false, forall_eq_or_imp, forall_eq]); (try simp (disch := omega) [-List.getD_eq_getElem?_getD, i64w, *])))
  have hs := d_is_spl (j := (128 + ts.getD k 0).toNat) hkk (by omega) hi2
  simp only [spl, List.append_assoc, List.singleton_append, List.length_cons, List.length_nil, Nat.zero_add] at hs
  exact hs
 ·obtain rfl : k = ts.length := by omega
  refine amOwn7900 PT15_ok (h := ?_)
  refine s_regionL ?_
  ((iterate 1 (((with_reducible refine spl_step TT_ok PT15_ok (id := 0) (σ' := ?_) ?_ ?_); rotate_left; (focus (simp [-List.getD_eq_getElem?_getD, *]; rfl))))))
  refine spl_call TT_ok rfl rfl rfl (by kernel_rfl) Tryz.func78 rfl (avs := [.agg [.v (.int .i64 N), aRows L], .ptr 2 0 0]) (cs := []) rfl rfl (by simp [Tryz.ntmps78]) fun B' hI' hro' => ?_
  rw [Tryz.ntmps78, Tryz.results78]
  simp only [enumA, List.append_nil]
  refine amOwn7900 PT15_ok (h := ?_)
  refine ⟨.inr rfl, .clo 106 [.ptr 7 0 0, .ptr 8 0 0], ?_, ?_⟩
  ·simp [retA, retL, ret1, lk]
  refine spl_nil ?_
  refine k_seq ?_
  refine s_block ?_
  (refine s_eq (τ := ?_) ?_ ?_; rotate_left; (focus ((try simp only [AS.frz, List.map_cons, List.map_nil]); (try simp [-List.getD_eq_getElem?_getD, frzV, frzO, frzC, List.filter]); rfl)))
  refine s_range TT_ok 9 (by simp) hro (f := 106) (cs := [.ptr 7 0 0, .ptr 8 0 0]) rfl (by kernel_rfl) Tryz.func106 rfl (by simp [Tryz.ntmps106]) (by simp) fun B1 hI1 hro1 hY => ?_
  rw [Tryz.ntmps106, Tryz.results106]
  simp only [enumA]
  refine s_cnil 6 0 1 10 30 1 rfl rfl (by simp) ?_ (by decide)
  (refine s_eq (τ := ?_) ?_ ?_; rotate_left; (focus ((try simp only [AS.frz, List.map_cons, List.map_nil]); (try simp [-List.getD_eq_getElem?_getD, frzV, frzO, frzC, List.filter]); rfl)))
  refine amOwn7900 PT15_ok (h := ?_)
  refine s_loopI hI1 (J := fun i : {k : Nat // k ≤ L.length} => ⟨21, [(0, .yld 9), (1, .ptr 7 0 0), (2, .ptr 8 0 0), (7, aRows L), (8, .v (.int .i64 (L.length : Int))), (9, .v (.int .i64 (i.1 : Int)))], [(10, ⟨30, 1, (givenK ts L i.1).map fun xs => [aInts xs]⟩), (0, ⟨24, 2, [[.v (.int .i64 N), aRows L]]⟩), (1, ⟨24, 2, [[.v (.int .i64 0), .v (.slice none 0 0)]]⟩), (2, ⟨99, 257, [isK ts ts.length]⟩), (6, ⟨24, 2, [[.v (.int .i64 N), .ref 10 0 (givenK ts L i.1).length]]⟩), (7, ⟨24, 2, [[.v (.int .i64 N), aRows L]]⟩), (8, ⟨103, 1, [[.ptr 2 0 0]]⟩)], [10, 9, 8, 7, 6, 2, 1, 0]⟩) (μ := fun i => L.length - i.1) ⟨0, Nat.zero_le _⟩ ?_ (fun ⟨k, hk⟩ => ?_)
  ·have hk0 : givenK ts L 0 = [] := rfl
   refine weakI_of (fun k => k) ⟨rfl, ?_, ?_, ?_⟩ ?_ <;> simp [hk0, AV.ids, idsL, idsLL, AV.ren, renL, renLL]
  have hlen := givenK_len ts L k
  have hcap : ((givenK ts L k).length + 1) * 24 ≤ 140737488355328 := by omega
  refine amOwn7900 PT15_ok (h := ?_)
  (focus ((with_reducible refine sp_cond (b := ?_) ?_ (fun hc => ?_) (fun hc => ?_)); rotate_left; (focus (first | rfl | (simp [lk, AS.ev]; rfl))); all_goals (try simp [-List.getD_eq_getElem?_getD] at hc)))
  ·have hkk := hc
   clear hc
   have hci := okRows_at h k
   have hcl := okInts_len hci
   have hmem := getD_memL hkk
   generalize hcc : L.getD k [] = c at hci hcl hmem
   obtain ⟨hl128, hlit⟩ := hck.2.2.2 c hmem
   have hks := givenK_succ (ts := ts) hkk
   rw [hcc] at hks
   refine amOwn7900 PT15_ok (h := ?_)
   refine s_regionL ?_
   ((iterate 2 (((with_reducible refine spl_step TT_ok PT15_ok (id := 0) (σ' := ?_) ?_ ?_); rotate_left; (focus (simp [-List.getD_eq_getElem?_getD, *]; rfl))))))
   have hlk := open11_looks N L ts c [(10, ⟨30, 1, (givenK ts L k).map fun xs => [aInts xs]⟩), (0, ⟨24, 2, [[.v (.int .i64 N), aRows L]]⟩), (1, ⟨24, 2, [[.v (.int .i64 0), .v (.slice none 0 0)]]⟩), (2, ⟨99, 257, [isK ts ts.length]⟩), (6, ⟨24, 2, [[.v (.int .i64 N), .ref 10 0 (givenK ts L k).length]]⟩), (7, ⟨24, 2, [[.v (.int .i64 N), aRows L]]⟩), (8, ⟨103, 1, [[.ptr 2 0 0]]⟩)] [10, 9, 8, 7, 6, 2, 1, 0] (fun y hy => ⟨(litOk_range (hlit y hy)).1, (litOk_range (hlit y hy)).2.1⟩) rfl rfl
   refine spl_call TT_ok rfl rfl rfl (by kernel_rfl) Tryz.func72 rfl (avs := [aInts c, .clo 107 [.ptr 8 0 0]]) (cs := []) rfl rfl (by simp [Tryz.ntmps72]) fun B2 hI2 hro2 => ?_
   refine sp_mono (cntFI_sp (known_of (by simp [AV.ids, idsL, idsLL])) (by omega) (by simp [AV.ids, idsL]) hlk rfl hI2) fun e τ hq => ?_
   obtain ⟨h1, h2, h3, h4⟩ := hq
   refine ⟨h1, _, h2, ?_⟩
   rw [h3, h4]
   refine spl_nil ?_
   cases hq : c.any fun l => decide (l ∈ ts)
   ·have ho : openC ts c = true := by unfold openC; rw [hq]; rfl
    rw [if_pos ho] at hks
    refine amOwn7900 PT15_ok (h := ?_)
    refine s_regionL ?_
    ((iterate 2 (((with_reducible refine spl_step TT_ok PT15_ok (id := 0) (σ' := ?_) ?_ ?_); rotate_left; (focus (simp [-List.getD_eq_getElem?_getD, *]; rfl))))))
    refine hY _ _ _ _ _ _ _ _ [aInts c] rfl rfl rfl rfl rfl rfl fun B3 hI3 hro3 => ?_
    simp only [setps, st]
    refine amOwn7900 PT15_ok (h := ?_)
    refine ⟨rfl, fun B4 hI4 hro4 => ?_⟩
    refine amOwn7900 PT15_ok (h := ?_)
    refine s_nil 14 11 3 1 (by simp [lk]) (by simp) ?_
    simp only [st]
    refine s_loopI hI4 (J := fun i : {j : Nat // j ≤ c.length} => ⟨72, [(9, .ptr 2 0 0), (12, .ptr 6 0 0), (14, .ref 11 0 (restC ts (c.take i.1)).length), (49, aInts c), (50, .v (.int .i64 (c.length : Int))), (51, .v (.int .i64 (i.1 : Int)))], (11, ⟨3, 1, (restC ts (c.take i.1)).map fun x => [.v (.int .i64 x)]⟩) :: [(10, ⟨30, 1, (givenK ts L k).map fun xs => [aInts xs]⟩), (0, ⟨24, 2, [[.v (.int .i64 N), aRows L]]⟩), (1, ⟨24, 2, [[.v (.int .i64 0), .v (.slice none 0 0)]]⟩), (2, ⟨99, 257, [isK ts ts.length]⟩), (6, ⟨24, 2, [[.v (.int .i64 N), .ref 10 0 (givenK ts L k).length]]⟩), (7, ⟨24, 2, [[.v (.int .i64 N), aRows L]]⟩), (8, ⟨103, 1, [[.ptr 2 0 0]]⟩)], [11, 10, 9, 8, 7, 6, 2, 1, 0]⟩) (μ := fun i => c.length - i.1) ⟨0, Nat.zero_le _⟩ ?_ (fun ⟨j, hj⟩ => ?_)
    ·have hk1 : restC ts [] = [] := rfl
     refine weakI_of (fun k => k) ⟨rfl, ?_, ?_, ?_⟩ ?_ <;> simp [hk1, AV.ids, idsL, idsLL, AV.ren, renL, renLL]
    refine amOwn7900 PT15_ok (h := ?_)
    (focus ((with_reducible refine sp_cond (b := ?_) ?_ (fun hc => ?_) (fun hc => ?_)); rotate_left; (focus (first | rfl | (simp [lk, AS.ev]; rfl))); all_goals (try simp [-List.getD_eq_getElem?_getD] at hc)))
    ·have hjj := hc
     clear hc
     have hrs := restC_succ (ts := ts) hjj
     obtain ⟨r1, r2, r3, r4, r5⟩ := litOk_range (hlit _ (getD_memI hjj))
     have hrl : (restC ts (c.take j)).length ≤ 128 := by have := restC_len ts (c.take j); rw [List.length_take] at this; omega
     have hcap2 : ((restC ts (c.take j)).length + 1) * 8 ≤ 140737488355328 := by omega
     generalize hx : c.getD j 0 = x at hrs r1 r2 r3 r4 r5
     have hw : IntKind.i64.wrap (128 - x) = 128 - x := i64w (by omega) (by omega)
     have hi0 : 0 ≤ 128 - x := by omega
     have hi1 : 128 - x < 257 := by omega
     have hi3 : 128 - x ≤ 256 := by omega
     have hld := is_getD ts ts.length (j := (128 - x).toNat) (by omega)
     rw [List.take_length, show (((128 - x).toNat : Nat) : Int) - 128 = -x by omega] at hld
     have hld1 : (List.drop (128 - x).toNat (isK ts ts.length)).getD 0 .any = .v (.bool (decide (-x ∈ ts))) := by rw [← hld]; simp
     cases hb : decide (-x ∈ ts)
     ·rw [if_neg (of_decide_eq_false hb)] at hrs
      rw [hb] at hld hld1
      refine amOwn7900 PT15_ok (h := ?_)
      refine ki_lp (⟨j + 1, by omega⟩ : {j : Nat // j ≤ c.length}) (by dsimp only; omega) ?_
      (refine weakI_of (fun k => if k = 11 then 15 else k) ⟨rfl, ?_, ?_, ?_⟩ ?_ <;> ((try simp only [List.mem_cons, List.not_mem_nil, or_false, forall_eq_or_imp, forall_eq]); (try simp (disch := omega) [-List.getD_eq_getElem?_getD, lk, AV.ids, idsL, idsLL, AV.ren, renL, renLL, i64w, *])))
     ·rw [if_pos (of_decide_eq_true hb)] at hrs
      rw [hb] at hld hld1
      refine amOwn7900 PT15_ok (h := ?_)
      refine ki_lp (⟨j + 1, by omega⟩ : {j : Nat // j ≤ c.length}) (by dsimp only; omega) ?_
      (refine weakI_of (fun k => k) ⟨rfl, ?_, ?_, ?_⟩ ?_ <;> ((try simp only [List.mem_cons, List.not_mem_nil, or_false, forall_eq_or_imp, forall_eq]); (try simp (disch := omega) [-List.getD_eq_getElem?_getD, lk, AV.ids, idsL, idsLL, AV.ren, renL, renLL, i64w, *])))
    ·obtain rfl : j = c.length := by omega
     have hfull : restC ts (c.take c.length) = restC ts c := by rw [List.take_length]
     refine s_frz (fun k => k == 11) ?_
     (refine s_eq (τ := ?_) ?_ ?_; rotate_left; (focus ((try simp only [AS.frz, List.map_cons, List.map_nil]); (try simp [-List.getD_eq_getElem?_getD, frzV, frzO, frzC, List.filter]); rfl)))
     refine amOwn7900 PT15_ok (h := ?_)
     refine ⟨rfl, ?_⟩
     ((iterate 1 (((with_reducible refine spl_step TT_ok PT15_ok (id := 0) (σ' := ?_) ?_ ?_); rotate_left; (focus (simp [-List.getD_eq_getElem?_getD, *]; rfl))))))
     refine spl_nil ?_
     refine amOwn7900 PT15_ok (h := ?_)
     refine ki_lp (⟨k + 1, by omega⟩ : {k : Nat // k ≤ L.length}) (by dsimp only; omega) ?_
     (refine weakI_of (fun k => if k = 10 then 16 else k) ⟨rfl, ?_, ?_, ?_⟩ ?_ <;> ((try simp only [List.mem_cons, List.not_mem_nil, or_false, forall_eq_or_imp, forall_eq]); (try simp (disch := omega) [-List.getD_eq_getElem?_getD, lk, AV.ids, idsL, idsLL, AV.ren, renL, renLL, i64w, *])))
   ·have ho : ¬ openC ts c = true := by unfold openC; rw [hq]; simp
    rw [if_neg ho] at hks
    refine amOwn7900 PT15_ok (h := ?_)
    refine ki_lp (⟨k + 1, by omega⟩ : {k : Nat // k ≤ L.length}) (by dsimp only; omega) ?_
    (refine weakI_of (fun k => k) ⟨rfl, ?_, ?_, ?_⟩ ?_ <;> ((try simp only [List.mem_cons, List.not_mem_nil, or_false, forall_eq_or_imp, forall_eq]); (try simp (disch := omega) [-List.getD_eq_getElem?_getD, lk, AV.ids, idsL, idsLL, AV.ren, renL, renLL, i64w, *])))
  ·obtain rfl : k = L.length := by omega
   have hfin : givenK ts L L.length = givenT ts L := by unfold givenK givenT; rw [List.take_length]
   refine amOwn7900 PT15_ok (h := ?_)
   refine ⟨.inl rfl, .tup [], rfl, ?_⟩
   refine amOwn7900 PT15_ok (h := ?_)
   ((refine post_ret (av := ?_) (by first | exact .inl rfl | exact .inr rfl) (show (Tryz.f45).results.toList = _ from by rw [Tryz.results45]) ?_ ?_); rotate_left; (focus (simp [-List.getD_eq_getElem?_getD, retA, retL, ret1, lk, st, ldA, AV.cell]; rfl)); (try simp [-List.getD_eq_getElem?_getD, *]))
theorem given_p (N : Int) (L : List (List Int)) (ts : List Int) (hN : okI N = true) (h : okRows L = true) (ht : okInts ts = true) : FnPure Tryz.prog 45 [aTh N L, aInts ts] (givenA N L ts) := by
 unfold givenA
 by_cases hz : checkT N L = 0
 ·rw [if_pos hz]
  have hck := checkT_ok hz
  have htm := term_some (ts := ts) ⟨hck.1, hck.2.1⟩
  cases hr : termR N ts
  ·rw [hr] at htm
   rw [if_neg (by simp)]
   unfold aTh
   refine fn_sp TT_ok Tryz.func45 (c := _) rfl (by simp [Tryz.ntmps45]) (fun B hI0 hro => ?_)
   rw [Tryz.ntmps45]
   simp only [enumA]
   refine amOwn7900 PT15_ok (h := ?_)
   ((refine post_ret (av := ?_) (by first | exact .inl rfl | exact .inr rfl) (show (Tryz.f45).results.toList = _ from by rw [Tryz.results45]) ?_ ?_); rotate_left; (focus (simp [-List.getD_eq_getElem?_getD, retA, retL, ret1, lk, st, ldA, AV.cell]; rfl)); (try simp [-List.getD_eq_getElem?_getD, *]))
  ·rw [if_pos rfl]
   exact given_ok N L ts hN h ht hz hr
 ·rw [if_neg hz]
  have hne : (checkT N L != 0) = true := by simpa using hz
  unfold aTh
  refine fn_sp TT_ok Tryz.func45 (c := _) rfl (by simp [Tryz.ntmps45]) (fun B hI0 hro => ?_)
  rw [Tryz.ntmps45]
  simp only [enumA]
  refine amOwn7900 PT15_ok (h := ?_)
  ((refine post_ret (av := ?_) (by first | exact .inl rfl | exact .inr rfl) (show (Tryz.f45).results.toList = _ from by rw [Tryz.results45]) ?_ ?_); rotate_left; (focus (simp [-List.getD_eq_getElem?_getD, retA, retL, ret1, lk, st, ldA, AV.cell]; rfl)); (try simp [-List.getD_eq_getElem?_getD, *]))
@[simp] def g_given : List AV → Option (AV × Bool)
 | [.agg [.v (.int .i64 N), a0], a1] => (match toRows a0 with | some L => (match toInts a1 with | some ts => if (okI N && okRows L && okInts ts) = true then some (givenA N L ts, false) else none | none => none) | none => none)
 | _ => none
theorem e_given : EntOk Tryz.prog 45 g_given := ent_pure (by kernel_rfl) fun args r fr h => by
 unfold g_given at h
 split at h
 ·rename_i N a0 a1
  split at h
  ·rename_i L t0
   split at h
   ·rename_i ts t1
    split at h
    ·rename_i hc
     simp only [Bool.and_eq_true] at hc
     obtain ⟨⟨m0, o0⟩, o1⟩ := hc
     cases h
     exact ⟨FnPure.cov (given_p N L ts m0 o0 o1) (.cons (cov_th _ (cov_rows t0)) (.cons (cov_ints t1) .nil)), rfl⟩
    ·cases h
   ·cases h
  ·cases h
 ·cases h

def l17 : List (FuncId × (List AV → Option (AV × Bool))) :=
 (45, g_given) :: l15
theorem l17_ok : ∀ p ∈ l17, EntOk Tryz.prog p.1 p.2 := ent_cons e_given (l15_ok)
def PT17 : PTab := tab l17
theorem PT17_ok : PTok Tryz.prog PT17 := tab_ok l17_ok
@[simp] theorem PT17_given : PT17 45 = g_given := rfl
@[simp] theorem PT17_old (f : FuncId) (h : decide (f ≠ 45) = true) : PT17 f = PT15 f := tab_old (of_decide_eq_true h)
end Go.Proofs.YtllkogdgmmcfgaaGreatDoor
/- Tr1: Contracts of censuslaw22.light and trace.good, by the abstract machine; no condition. -/
namespace Go.Proofs.YtllkogdgmmcfgaaGreatDoor
set_option linter.unusedVariables false
set_option linter.unusedSimpArgs false
set_option linter.unusedSectionVars false
open Go.RowKit
open Wlk
attribute [-simp] List.getD_eq_getElem?_getD
set_option maxRecDepth 100000
def aCl (ts cs : List Int) : AV := .agg [aInts ts, aInts cs]
theorem cov_cl {a b : AV} {ts cs : List Int} (h1 : toInts a = some ts) (h2 : toInts b = some cs) : Cov (.agg [a, b]) (aCl ts cs) := by
 intro S v hv
 cases hv with
 | agg _ us hl g1 g2 =>
  refine .agg _ us hl g1 fun i hi => ?_
  match i, hi with
  | 0, hi => exact cov_ints h1 S _ (g2 0 (Nat.succ_pos _))
  | 1, hi => exact cov_ints h2 S _ (g2 1 (Nat.lt_succ_self _))
def tmOk (N : Int) (ts : List Int) (j : Nat) : Bool := litOk (ts.getD j 0) N && !sHas (varsRow 0#128 ts j) (litVar (ts.getD j 0))
def lastK (cs : List Int) (j : Nat) : Int := if j = 0 then -1 else cs.getD (j - 1) 0
theorem lastK_succ (cs : List Int) (j : Nat) : lastK cs (j + 1) = cs.getD j 0 := by unfold lastK; rw [if_neg (by omega)]; rfl
def ixAsc (cs : List Int) (m : Int) (j : Nat) : Bool := decide (lastK cs j < cs.getD j 0) && decide (cs.getD j 0 < m)
def goodB (N m : Int) (ts cs : List Int) : Bool := (List.range ts.length).all (tmOk N ts) && (List.range cs.length).all (ixAsc cs m)
theorem all_range {n : Nat} {f : Nat → Bool} (h : ∀ j, j < n → f j = true) : (List.range n).all f = true := List.all_eq_true.2 fun j hj => h j (List.mem_range.1 hj)
theorem all_range_f {n j : Nat} {f : Nat → Bool} (hj : j < n) (h : f j = false) : (List.range n).all f = false := List.all_eq_false.2 ⟨j, List.mem_range.2 hj, by rw [h]; decide⟩
def lightC (ts cs : List Int) : Bool := decide (ts.length ≤ 200) && decide (cs.length ≤ 300)
theorem good_p (N m : Int) (ts cs : List Int) (hN : okI N = true) (hm : okI m = true) (ht : okInts ts = true) (hc : okInts cs = true) : FnPure Tryz.prog 74 [aCl ts cs, .v (.int .i64 N), .v (.int .i64 m)] (.v (.bool (goodB N m ts cs))) := by
 have lt := okInts_len ht
 have lc := okInts_len hc
 obtain ⟨z1, z2⟩ := words0
 unfold aCl goodB
 refine fn_sp TT_ok Tryz.func74 (c := _) rfl (by simp [Tryz.ntmps74]) (fun B hI0 hro => ?_)
 rw [Tryz.ntmps74]
 simp only [enumA]
 refine amGo PT17_ok (h := ?_)
 refine s_loop (J := fun i : {k : Nat // k ≤ ts.length ∧ ∀ j, j < k → tmOk N ts j = true} => ⟨52, [(1, .v (.int .i64 N)), (2, .v (.int .i64 m)), (3, .ptr 0 0 0), (7, .ptr 1 0 0), (14, aInts ts), (15, .v (.int .i64 (ts.length : Int))), (16, .v (.int .i64 (i.1 : Int)))], [(0, ⟨37, 2, [[aInts ts, aInts cs]]⟩), (1, ⟨47, 2, [[.v (.int .u64 ((lo (varsRow 0#128 ts i.1)).toNat : Int)), .v (.int .u64 ((hi (varsRow 0#128 ts i.1)).toNat : Int))]]⟩)], [1, 0]⟩) (μ := fun i => ts.length - i.1) ⟨0, Nat.zero_le _, fun j hj => by omega⟩ ?_ (fun ⟨k, hk, he⟩ => ?_)
 ·have hk0 : varsRow 0#128 ts 0 = 0#128 := rfl
  (refine weak_id rfl ?_ ?_ <;> ((try simp only [List.mem_cons, List.not_mem_nil, or_false, forall_eq_or_imp, forall_eq]); (try simp (disch := omega) [i64w, *])))
 have hcs := hc
 clear hc
 refine amGo PT17_ok (h := ?_)
 (focus ((with_reducible refine sp_cond (b := ?_) ?_ (fun hc => ?_) (fun hc => ?_)); rotate_left; (focus (first | rfl | (simp [lk, AS.ev]; rfl))); all_goals (try simp at hc)))
 ·have hkk := hc
  clear hc
  have hl := okI_iff.2 (okInts_at ht k)
  obtain ⟨v1, v2⟩ := litVar_range (ts.getD k 0)
  have hv := okI_iff.2 (show I64 (litVar (ts.getD k 0)) from ⟨by omega, by omega⟩)
  have hs := varsRow_succ 0#128 hkk
  cases h1 : litOk (ts.getD k 0) N
  ·have hf := all_range_f (f := tmOk N ts) hkk (by unfold tmOk; rw [h1]; rfl)
   refine amGo PT17_ok (h := ?_)
   (refine amRt Tryz.results74 (h := ?_); try simp [*])
  ·cases h2 : sHas (varsRow 0#128 ts k) (litVar (ts.getD k 0))
   ·have h3 : tmOk N ts k = true := by unfold tmOk; rw [h1, h2]; rfl
    refine amGo PT17_ok (h := ?_)
    refine k_lp (⟨k + 1, by omega, fun j hj => ?_⟩ : {k : Nat // k ≤ ts.length ∧ ∀ j, j < k → tmOk N ts j = true}) (by dsimp only; omega) ?_
    ·by_cases e : j < k
     ·exact he j e
     ·obtain rfl : j = k := by omega
      exact h3
    ·(refine weak_id rfl ?_ ?_ <;> ((try simp only [List.mem_cons, List.not_mem_nil, or_false, forall_eq_or_imp, forall_eq]); (try simp (disch := omega) [i64w, *])))
   ·have hf := all_range_f (f := tmOk N ts) hkk (by unfold tmOk; rw [h1, h2]; rfl)
    refine amGo PT17_ok (h := ?_)
    (refine amRt Tryz.results74 (h := ?_); try simp [*])
 ·obtain rfl : k = ts.length := by omega
  clear hc
  have ha := all_range he
  refine amGo PT17_ok (h := ?_)
  refine s_loop (J := fun i : {k : Nat // k ≤ cs.length ∧ ∀ j, j < k → ixAsc cs m j = true} => ⟨52, [(2, .v (.int .i64 m)), (10, .v (.int .i64 (lastK cs i.1))), (36, aInts cs), (37, .v (.int .i64 (cs.length : Int))), (38, .v (.int .i64 (i.1 : Int)))], [], []⟩) (μ := fun i => cs.length - i.1) ⟨0, Nat.zero_le _, fun j hj => by omega⟩ ?_ (fun ⟨k, hk, hf⟩ => ?_)
  ·have hk0 : lastK cs 0 = -1 := rfl
   (refine weak_id rfl ?_ ?_ <;> ((try simp only [List.mem_cons, List.not_mem_nil, or_false, forall_eq_or_imp, forall_eq]); (try simp (disch := omega) [i64w, *])))
  refine amGo PT17_ok (h := ?_)
  (focus ((with_reducible refine sp_cond (b := ?_) ?_ (fun hc => ?_) (fun hc => ?_)); rotate_left; (focus (first | rfl | (simp [lk, AS.ev]; rfl))); all_goals (try simp at hc)))
  ·have hkk := hc
   clear hc
   have hs := lastK_succ cs k
   by_cases h1 : lastK cs k < cs.getD k 0
   ·have h1' : ¬ cs.getD k 0 ≤ lastK cs k := by omega
    by_cases h2 : cs.getD k 0 < m
    ·have h2' : ¬ m ≤ cs.getD k 0 := by omega
     have h3 : ixAsc cs m k = true := by unfold ixAsc; simp only [h1, h2, decide_true, Bool.and_self]
     refine amGo PT17_ok (h := ?_)
     refine k_lp (⟨k + 1, by omega, fun j hj => ?_⟩ : {k : Nat // k ≤ cs.length ∧ ∀ j, j < k → ixAsc cs m j = true}) (by dsimp only; omega) ?_
     ·by_cases e : j < k
      ·exact hf j e
      ·obtain rfl : j = k := by omega
       exact h3
     ·(refine weak_id rfl ?_ ?_ <;> ((try simp only [List.mem_cons, List.not_mem_nil, or_false, forall_eq_or_imp, forall_eq]); (try simp (disch := omega) [i64w, *])))
    ·have h2' : m ≤ cs.getD k 0 := by omega
     have hff := all_range_f (f := ixAsc cs m) hkk (by unfold ixAsc; simp only [h2, decide_false, Bool.and_false])
     refine amGo PT17_ok (h := ?_)
     (refine amRt Tryz.results74 (h := ?_); try simp [*])
   ·have h1' : cs.getD k 0 ≤ lastK cs k := by omega
    have hff := all_range_f (f := ixAsc cs m) hkk (by unfold ixAsc; simp only [h1, decide_false, Bool.false_and])
    refine amGo PT17_ok (h := ?_)
    (refine amRt Tryz.results74 (h := ?_); try simp [*])
  ·obtain rfl : k = cs.length := by omega
   have hb := all_range hf
   refine amGo PT17_ok (h := ?_)
   (refine amRt Tryz.results74 (h := ?_); try simp [*])
@[simp] def g_trGood : List AV → Option (AV × Bool)
 | [.agg [a0, b0], .v (.int .i64 N), .v (.int .i64 m)] => (match toInts a0 with | some ts => (match toInts b0 with | some cs => if (okInts ts && okInts cs && okI N && okI m) = true then some (.v (.bool (goodB N m ts cs)), false) else none | none => none) | none => none)
 | _ => none
theorem e_trGood : EntOk Tryz.prog 74 g_trGood := ent_pure (by kernel_rfl) fun args r fr h => by
 unfold g_trGood at h
 split at h
 ·rename_i a0 b0 N m
  split at h
  ·rename_i ts t0
   split at h
   ·rename_i cs s0
    split at h
    ·rename_i hc
     simp only [Bool.and_eq_true] at hc
     obtain ⟨⟨⟨o0, p0⟩, o1⟩, o2⟩ := hc
     cases h
     exact ⟨FnPure.cov (good_p N m ts cs o1 o2 o0 p0) (.cons (cov_cl t0 s0) (.cons (Cov.refl _) (.cons (Cov.refl _) .nil))), rfl⟩
    ·cases h
   ·cases h
  ·cases h
 ·cases h

def l24 : List (FuncId × (List AV → Option (AV × Bool))) :=
 (74, g_trGood) :: l17
theorem l24_ok : ∀ p ∈ l24, EntOk Tryz.prog p.1 p.2 := ent_cons e_trGood (l17_ok)
def PT24 : PTab := tab l24
theorem PT24_ok : PTok Tryz.prog PT24 := tab_ok l24_ok
@[simp] theorem PT24_trGood : PT24 74 = g_trGood := rfl
@[simp] theorem PT24_old (f : FuncId) (h : decide (f ≠ 74) = true) : PT24 f = PT17 f := tab_old (of_decide_eq_true h)
end Go.Proofs.YtllkogdgmmcfgaaGreatDoor
/- Tr2: Contract of trace.Left, by the abstract machine; no condition. -/
namespace Go.Proofs.YtllkogdgmmcfgaaGreatDoor
set_option linter.unusedVariables false
set_option linter.unusedSimpArgs false
set_option linter.unusedSectionVars false
open Go.RowKit
open Wlk
attribute [-simp] List.getD_eq_getElem?_getD
set_option maxRecDepth 100000
def keptF (L : List (List Int)) (ts : List Int) (i : Int) : Bool := !((L.getD i.toNat []).any fun l => decide (l ∈ ts))
def keptL (L : List (List Int)) (ts cs : List Int) : List Int := cs.filter (keptF L ts)
theorem keptL_succ (L : List (List Int)) (ts : List Int) {cs : List Int} {k : Nat} (h : k < cs.length) : keptL L ts (cs.take (k + 1)) = if keptF L ts (cs.getD k 0) = true then keptL L ts (cs.take k) ++ [cs.getD k 0] else keptL L ts (cs.take k) := by
 unfold keptL
 have : cs.getD k 0 = cs[k] := by simp [List.getD, h]
 rw [List.take_succ_eq_append_getElem h, List.filter_append, this]
 by_cases hq : keptF L ts cs[k] = true
 ·rw [if_pos hq]; simp [hq]
 ·rw [if_neg hq]; simp [hq]
theorem keptL_len (L : List (List Int)) (ts cs : List Int) : (keptL L ts cs).length ≤ cs.length := List.length_filter_le _ _
theorem good_parts {N m : Int} {ts cs : List Int} (h : goodB N m ts cs = true) : (∀ j, j < ts.length → tmOk N ts j = true) ∧ ∀ j, j < cs.length → ixAsc cs m j = true := by
 simp only [goodB, Bool.and_eq_true, List.all_eq_true] at h
 exact ⟨fun j hj => h.1 j (List.mem_range.2 hj), fun j hj => h.2 j (List.mem_range.2 hj)⟩
theorem good_ix {N m : Int} {ts cs : List Int} (h : goodB N m ts cs = true) : ∀ k, k < cs.length → (k : Int) ≤ cs.getD k 0 ∧ cs.getD k 0 < m := by
 obtain ⟨_, h2⟩ := good_parts h
 intro k
 induction k with
 | zero =>
  intro hk
  have := h2 0 hk
  simp only [ixAsc, lastK, if_true, Bool.and_eq_true, decide_eq_true_eq] at this
  omega
 | succ k ih =>
  intro hk
  have h3 := ih (by omega)
  have := h2 (k + 1) hk
  rw [ixAsc, lastK_succ, Bool.and_eq_true, decide_eq_true_eq, decide_eq_true_eq] at this
  omega
def keptA (N : Int) (L : List (List Int)) (ts cs : List Int) : AV := if checkT N L = 0 ∧ goodB N L.length ts cs = true then .tup [aInts (keptL L ts cs), .v (.int .i64 0)] else .tup [.v (.slice none 0 0), .v (.int .i64 1)]
theorem left1_looks (ts cs xs : List Int) (objs : List (Nat × AObj)) (ids : List Nat) (ht : okInts ts = true) (hx : okInts xs = true) (h1 : lk objs 1 = some ⟨37, 2, [[aInts ts, aInts cs]]⟩) : Looks Tryz.prog objs ids 75 [.ptr 1 0 0] (avI xs) (onI fun y => decide (y ∈ ts)) := by
 refine ⟨by kernel_rfl, _, _, Tryz.func75, rfl, by simp [Tryz.ntmps75], fun x hxm B hI hro => ?_⟩
 obtain ⟨y, hy, rfl⟩ := List.mem_map.1 hxm
 have ho := okInts_mem hx y hy
 rw [Tryz.ntmps75, Tryz.results75]
 simp only [enumA]
 refine amGo PT24_ok (h := ?_)
 refine ⟨.inr rfl, ?_, rfl, rfl⟩
 simp [retA, retL, ret1, lk, st, onI]
theorem left_p (N : Int) (L : List (List Int)) (ts cs : List Int) (hN : okI N = true) (hL : okRows L = true) (ht : okInts ts = true) (hc : okInts cs = true) : FnPure Tryz.prog 44 [aTh N L, aCl ts cs] (keptA N L ts cs) := by
 have lt := okInts_len ht
 have lc := okInts_len hc
 have ll := okRows_len hL
 have hm : okI (L.length : Int) = true := okI_iff.2 ⟨by omega, by omega⟩
 unfold aTh
 by_cases hz : checkT N L = 0
 ·cases hg : goodB N L.length ts cs
  ·have hA : keptA N L ts cs = .tup [.v (.slice none 0 0), .v (.int .i64 1)] := by unfold keptA; rw [if_neg (by rw [hg]; simp)]
   unfold aCl
   refine fn_sp TT_ok Tryz.func44 (c := _) rfl (by simp [Tryz.ntmps44]) (fun B hI0 hro => ?_)
   rw [Tryz.ntmps44]
   simp only [enumA]
   refine amGo PT24_ok (h := ?_)
   (refine amRt Tryz.results44 (h := ?_); try simp [*])
  ·have hA : keptA N L ts cs = .tup [aInts (keptL L ts cs), .v (.int .i64 0)] := by unfold keptA; rw [if_pos ⟨hz, hg⟩]
   have hix := good_ix hg
   have lc2 : cs.length ≤ 4096 := by
    have h1 := (checkT_ok hz).2.2.1
    by_cases h0 : cs.length = 0
    ·omega
    ·have := hix (cs.length - 1) (by omega); omega
   unfold aCl
   refine fn_sp TT_ok Tryz.func44 (c := _) rfl (by simp [Tryz.ntmps44]) (fun B hI0 hro => ?_)
   rw [Tryz.ntmps44]
   simp only [enumA]
   refine amGo PT24_ok (h := ?_)
   refine s_nil 6 40 3 1 (by simp [lk]) (by simp) ?_
   simp only [st]
   refine s_loop (J := fun i : {k : Nat // k ≤ cs.length} => ⟨43, [(2, .ptr 0 0 0), (3, .ptr 1 0 0), (6, .ref 40 0 (keptL L ts (cs.take i.1)).length), (23, aInts cs), (24, .v (.int .i64 (cs.length : Int))), (25, .v (.int .i64 (i.1 : Int)))], [(40, ⟨3, 1, (keptL L ts (cs.take i.1)).map fun x => [.v (.int .i64 x)]⟩), (0, ⟨24, 2, [[.v (.int .i64 N), aRows L]]⟩), (1, ⟨37, 2, [[aInts ts, aInts cs]]⟩)], [40, 1, 0]⟩) (μ := fun i => cs.length - i.1) ⟨0, Nat.zero_le _⟩ ?_ (fun ⟨k, hk⟩ => ?_)
   ·have hk0 : keptL L ts [] = [] := rfl
    (refine weak_id rfl ?_ ?_ <;> ((try simp only [List.mem_cons, List.not_mem_nil, or_false, forall_eq_or_imp, forall_eq]); (try simp (disch := omega) [i64w, *])))
   have hlen := keptL_len L ts (cs.take k)
   rw [List.length_take] at hlen
   have hcap : ((keptL L ts (cs.take k)).length + 1) * 8 ≤ 140737488355328 := by omega
   refine amGo PT24_ok (h := ?_)
   (focus ((with_reducible refine sp_cond (b := ?_) ?_ (fun hc => ?_) (fun hc => ?_)); rotate_left; (focus (first | rfl | (simp [lk, AS.ev]; rfl))); all_goals (try simp at hc)))
   ·have hkk := hc
    clear hc
    obtain ⟨i0, i1⟩ := hix k hkk
    have hs := keptL_succ L ts hkk
    unfold keptF at hs
    obtain ⟨x, hx⟩ : ∃ x, cs.getD k 0 = x := ⟨_, rfl⟩
    rw [hx] at i0 i1 hs
    have x0 : 0 ≤ x := by omega
    have hmx : max x 0 = x := by omega
    have hx2 : x.toNat < L.length := by omega
    have hci := okRows_at hL x.toNat
    have hcl := okInts_len hci
    obtain ⟨c, hcc⟩ : ∃ c, L.getD x.toNat [] = c := ⟨_, rfl⟩
    rw [hcc] at hci hcl hs
    refine amGo PT24_ok (h := ?_)
    refine s_regionL ?_
    ((iterate 6 (((with_reducible refine spl_step TT_ok PT24_ok (id := 0) (σ' := ?_) ?_ ?_); rotate_left; (focus (simp [*]; rfl))))))
    have hlk := left1_looks ts cs c [(40, ⟨3, 1, (keptL L ts (cs.take k)).map fun x => [.v (.int .i64 x)]⟩), (0, ⟨24, 2, [[.v (.int .i64 N), aRows L]]⟩), (1, ⟨37, 2, [[aInts ts, aInts cs]]⟩)] [40, 1, 0] ht hci rfl
    refine spl_call TT_ok rfl rfl rfl (by kernel_rfl) Tryz.func72 rfl (avs := [aInts c, .clo 75 [.ptr 1 0 0]]) (cs := []) rfl rfl (by simp [Tryz.ntmps72]) fun B2 hI2 hro2 => ?_
    refine sp_mono (cntFI_sp (known_of (by simp [AV.ids, idsL, idsLL])) (by omega) (by simp [AV.ids, idsL]) hlk rfl hI2) fun e τ hq => ?_
    obtain ⟨h1, h2, h3, h4⟩ := hq
    refine ⟨h1, _, h2, ?_⟩
    rw [h3, h4]
    ((iterate 1 (((with_reducible refine spl_step TT_ok PT24_ok (id := 0) (σ' := ?_) ?_ ?_); rotate_left; (focus (simp [*]; rfl))))))
    refine spl_nil ?_
    cases hq : c.any fun l => decide (l ∈ ts)
    ·rw [hq] at hs
     simp only [Bool.not_false, if_true] at hs
     refine amGo PT24_ok (h := ?_)
     refine k_lp (⟨k + 1, by omega⟩ : {k : Nat // k ≤ cs.length}) (by dsimp only; omega) ?_
     (refine weak_of (fun k => if k = 40 then 44 else k) ⟨rfl, ?_, ?_, ?_⟩ <;> ((try simp only [List.mem_cons, List.not_mem_nil, or_false, forall_eq_or_imp, forall_eq]); (try simp (disch := omega) [lk, AV.ids, idsL, idsLL, AV.ren, renL, renLL, i64w, *])))
    ·rw [hq] at hs
     simp only [Bool.not_true, Bool.false_eq_true, if_false] at hs
     refine amGo PT24_ok (h := ?_)
     refine k_lp (⟨k + 1, by omega⟩ : {k : Nat // k ≤ cs.length}) (by dsimp only; omega) ?_
     (refine weak_id rfl ?_ ?_ <;> ((try simp only [List.mem_cons, List.not_mem_nil, or_false, forall_eq_or_imp, forall_eq]); (try simp (disch := omega) [i64w, *])))
   ·obtain rfl : k = cs.length := by omega
    rw [List.take_length]
    refine amGo PT24_ok (h := ?_)
    (refine amRt Tryz.results44 (h := ?_); try simp [*])
 ·have hA : keptA N L ts cs = .tup [.v (.slice none 0 0), .v (.int .i64 1)] := by unfold keptA; rw [if_neg (fun h => hz h.1)]
  have hne : (checkT N L != 0) = true := by simpa using hz
  unfold aCl
  refine fn_sp TT_ok Tryz.func44 (c := _) rfl (by simp [Tryz.ntmps44]) (fun B hI0 hro => ?_)
  rw [Tryz.ntmps44]
  simp only [enumA]
  refine amGo PT24_ok (h := ?_)
  (refine amRt Tryz.results44 (h := ?_); try simp [*])
@[simp] def g_trLeft : List AV → Option (AV × Bool)
 | [.agg [.v (.int .i64 N), a0], .agg [a1, b1]] => (match toRows a0 with | some L => (match toInts a1 with | some ts => (match toInts b1 with | some cs => if (okI N && okRows L && okInts ts && okInts cs) = true then some (keptA N L ts cs, false) else none | none => none) | none => none) | none => none)
 | _ => none
theorem e_trLeft : EntOk Tryz.prog 44 g_trLeft := ent_pure (by kernel_rfl) fun args r fr h => by
 unfold g_trLeft at h
 split at h
 ·rename_i N a0 a1 b1
  split at h
  ·rename_i L t0
   split at h
   ·rename_i ts t1
    split at h
    ·rename_i cs s1
     split at h
     ·rename_i hc
      simp only [Bool.and_eq_true] at hc
      obtain ⟨⟨⟨m0, o0⟩, o1⟩, p1⟩ := hc
      cases h
      exact ⟨FnPure.cov (left_p N L ts cs m0 o0 o1 p1) (.cons (cov_th _ (cov_rows t0)) (.cons (cov_cl t1 s1) .nil)), rfl⟩
     ·cases h
    ·cases h
   ·cases h
  ·cases h
 ·cases h

def l25 : List (FuncId × (List AV → Option (AV × Bool))) :=
 (44, g_trLeft) :: l24
theorem l25_ok : ∀ p ∈ l25, EntOk Tryz.prog p.1 p.2 := ent_cons e_trLeft (l24_ok)
def PT25 : PTab := tab l25
theorem PT25_ok : PTok Tryz.prog PT25 := tab_ok l25_ok
@[simp] theorem PT25_trLeft : PT25 44 = g_trLeft := rfl
@[simp] theorem PT25_old (f : FuncId) (h : decide (f ≠ 44) = true) : PT25 f = PT24 f := tab_old (of_decide_eq_true h)
end Go.Proofs.YtllkogdgmmcfgaaGreatDoor
/- Pl2: Plain laws of normal forms; no program. -/
namespace Go.Proofs.YtllkogdgmmcfgaaGreatDoor
set_option linter.unusedVariables false
set_option linter.unusedSimpArgs false
set_option linter.unusedSectionVars false
open Go.RowKit
set_option maxRecDepth 100000

theorem checkRows_of {N : Int} : ∀ {L : List (List Int)}, (∀ c ∈ L, c.length ≤ 128 ∧ ∀ l ∈ c, litOk l N = true) → checkRows N L = 0
 | [], _ => rfl
 | c :: r, h => by
  have h1 := h c (List.mem_cons_self ..)
  have : checkRow N c = 0 := by
   unfold checkRow
   rw [if_neg (by omega), if_pos (List.all_eq_true.2 h1.2)]
  rw [checkRows, if_pos this]
  exact checkRows_of fun d hd => h d (List.mem_cons_of_mem _ hd)
theorem checkT_of {N : Int} {L : List (List Int)} (h0 : 0 ≤ N) (h1 : N ≤ 128) (h2 : L.length ≤ 4096) (h3 : ∀ c ∈ L, c.length ≤ 128 ∧ ∀ l ∈ c, litOk l N = true) : checkT N L = 0 := by
 unfold checkT
 rw [if_neg (by omega), if_neg (by omega), checkRows_of h3]
theorem litOk_of {l N : Int} (h1 : N ≤ 128) (h : (1 ≤ l ∧ l ≤ N) ∨ (l ≤ -1 ∧ -N ≤ l)) : litOk l N = true := by
 unfold litOk litVar
 simp only [Bool.and_eq_true, decide_eq_true_eq]
 split
 ·omega
 ·split <;> omega
theorem okRows_check {N : Int} {L : List (List Int)} (h : checkT N L = 0) : okRows L = true := by
 obtain ⟨h0, h1, h2, h3⟩ := checkT_ok h
 simp only [okRows, Bool.and_eq_true, List.all_eq_true, decide_eq_true_eq]
 refine ⟨fun c hc => ?_, by omega⟩
 simp only [okInts, Bool.and_eq_true, List.all_eq_true, decide_eq_true_eq]
 have := h3 c hc
 refine ⟨fun l hl => ?_, by omega⟩
 have := litOk_range (this.2 l hl)
 exact okI_iff.2 ⟨by omega, by omega⟩

theorem altK_len {c : List Int} : ∀ {k : Nat}, altK c k = false → (sortK c k).length ≤ k
 | 0, _ => by simp [sortK]
 | k + 1, h => by
  rw [altK_succ, Bool.or_eq_false_iff] at h
  have ih := altK_len h.1
  rw [sortK_succ, List.length_append, List.length_append]
  by_cases h1 : ((k : Int) + 1) ∈ c
  ·by_cases h2 : -((k : Int) + 1) ∈ c
   ·rw [decide_eq_true h1, decide_eq_true h2] at h; cases h.2
   ·rw [if_neg h2, if_pos h1]; simp; omega
  ·rw [if_neg h1]
   by_cases h2 : -((k : Int) + 1) ∈ c
   ·rw [if_pos h2]; simp; omega
   ·rw [if_neg h2]; simp; omega
theorem normL_mem {N : Int} {L : List (List Int)} (hz : checkT N L = 0) (z : List Int) : z ∈ normL L ↔ ∃ c ∈ L, altK c N.toNat = false ∧ z = sortK c N.toNat := by
 obtain ⟨h0, h1, _, _⟩ := checkT_ok hz
 rw [normL_rNorm hz, (rNormK_strict N L (by omega) L.length (Nat.le_refl _)).2, List.take_length]
theorem normL_strict {N : Int} {L : List (List Int)} (hz : checkT N L = 0) : (normL L).Pairwise clLt := by
 obtain ⟨h0, h1, _, _⟩ := checkT_ok hz
 rw [normL_rNorm hz]
 exact (rNormK_strict N L (by omega) L.length (Nat.le_refl _)).1
theorem normL_len (L : List (List Int)) : (normL L).length ≤ L.length := by
 have h1 := openL_len L
 have h2 := (sortRows_perm (openL L)).length_eq
 have h3 : (distL (sortRows (openL L))).length ≤ (sortRows (openL L)).length := by
  unfold distL distK
  exact Nat.le_trans (List.length_filterMap_le _ _) (by simp)
 unfold normL
 omega
theorem normL_check {N : Int} {L : List (List Int)} (hz : checkT N L = 0) : checkT N (normL L) = 0 := by
 obtain ⟨h0, h1, h2, h3⟩ := checkT_ok hz
 have := normL_len L
 refine checkT_of h0 h1 (by omega) fun z hzz => ?_
 obtain ⟨c, hc, h4, rfl⟩ := (normL_mem hz z).1 hzz
 have := altK_len h4
 refine ⟨by omega, fun l hl => ?_⟩
 have := (mem_sortK.1 hl).2
 exact litOk_of h1 (by omega)
theorem mem_sortK_ok {N : Int} {c : List Int} (h0 : 0 ≤ N) (h : ∀ l ∈ c, litOk l N = true) (y : Int) : y ∈ sortK c N.toNat ↔ y ∈ c := by
 rw [mem_sortK]
 refine ⟨fun k => k.1, fun k => ⟨k, ?_⟩⟩
 have := litOk_range (h y k)
 omega
theorem sortK_idem {N : Int} {c : List Int} (h0 : 0 ≤ N) (h1 : N ≤ 128) (h : ∀ l ∈ c, litOk l N = true) : sortK (sortK c N.toNat) N.toNat = sortK c N.toNat := by
 refine strict_unique litLt_asymm (sortK_strict _ _ (by omega)) (sortK_strict _ _ (by omega)) fun z => ?_
 have hm := mem_sortK_ok h0 h
 rw [mem_sortK_ok h0 (fun l hl => h l ((hm l).1 hl)), hm]
theorem altK_congr {c d : List Int} (h : ∀ y, y ∈ c ↔ y ∈ d) (k : Nat) : altK c k = altK d k := by
 unfold altK
 congr 1
 funext i
 simp only [h]
theorem normL_idem {N : Int} {L : List (List Int)} (hz : checkT N L = 0) : normL (normL L) = normL L := by
 obtain ⟨h0, h1, h2, h3⟩ := checkT_ok hz
 have hz2 := normL_check hz
 refine strict_unique clLt_asymm (normL_strict hz2) (normL_strict hz) fun z => ?_
 rw [normL_mem hz2]
 constructor
 ·rintro ⟨d, hd, h4, rfl⟩
  have hd2 := hd
  obtain ⟨c, hc, h5, rfl⟩ := (normL_mem hz d).1 hd
  rw [sortK_idem h0 h1 (h3 c hc).2]
  exact hd2
 ·intro hzz
  obtain ⟨c, hc, h5, rfl⟩ := (normL_mem hz z).1 hzz
  exact ⟨_, hzz, by rw [altK_congr (mem_sortK_ok h0 (h3 c hc).2)]; exact h5, (sortK_idem h0 h1 (h3 c hc).2).symm⟩
theorem any_congr_mem {c d : List Int} {p : Int → Bool} (h : ∀ y, y ∈ c ↔ y ∈ d) : c.any p = d.any p := by
 rw [Bool.eq_iff_iff, List.any_eq_true, List.any_eq_true]
 constructor
 ·rintro ⟨x, hx, hp⟩; exact ⟨x, (h x).1 hx, hp⟩
 ·rintro ⟨x, hx, hp⟩; exact ⟨x, (h x).2 hx, hp⟩
end Go.Proofs.YtllkogdgmmcfgaaGreatDoor
/- Pl3: Plain laws of what is left of a theory; no program. -/
namespace Go.Proofs.YtllkogdgmmcfgaaGreatDoor
set_option linter.unusedVariables false
set_option linter.unusedSimpArgs false
set_option linter.unusedSectionVars false
open Go.RowKit
set_option maxRecDepth 100000
theorem givenT_mem {ts : List Int} {L : List (List Int)} {z : List Int} : z ∈ givenT ts L ↔ ∃ c ∈ L, openC ts c = true ∧ z = restC ts c := by
 unfold givenT
 rw [List.mem_map]
 constructor
 ·rintro ⟨c, hc, rfl⟩
  obtain ⟨h1, h2⟩ := List.mem_filter.1 hc
  exact ⟨c, h1, h2, rfl⟩
 ·rintro ⟨c, h1, h2, rfl⟩
  exact ⟨c, List.mem_filter.2 ⟨h1, h2⟩, rfl⟩
theorem givenT_check {N : Int} {L : List (List Int)} (hz : checkT N L = 0) (ts : List Int) : checkT N (givenT ts L) = 0 := by
 obtain ⟨h0, h1, h2, h3⟩ := checkT_ok hz
 have hl : (givenT ts L).length ≤ L.length := by
  unfold givenT; rw [List.length_map]; exact List.length_filter_le _ _
 refine checkT_of h0 h1 (by omega) fun z hzz => ?_
 obtain ⟨c, hc, _, rfl⟩ := givenT_mem.1 hzz
 have := h3 c hc
 have h5 := restC_len ts c
 exact ⟨by omega, fun l hl => this.2 l (List.mem_filter.1 hl).1⟩
structure TwP (q : Int) (v : Nat) (one two both : List Int) : Prop where
 hv : (v : Int) ≤ q
 rng : ∀ l ∈ both, ((v : Int) < l ∧ l ≤ q) ∨ ((v : Int) < -l ∧ -l ≤ q)
 mem : ∀ l, l ∈ both ↔ l ∈ one ∨ l ∈ two
 con : ∀ l ∈ both, -l ∉ both
 len1 : (one.length : Int) + 2 * v ≤ 2 * q
 len2 : (two.length : Int) + 2 * v ≤ 2 * q
 len3 : (both.length : Int) + 2 * v ≤ 2 * q
theorem TwP.zero {q : Int} (h : 0 ≤ q) : TwP q q.toNat [] [] [] := ⟨by omega, fun l h => (List.not_mem_nil h).elim, fun l => by simp, fun l h => (List.not_mem_nil h).elim, by simp; omega, by simp; omega, by simp; omega⟩
theorem TwP.skip {q : Int} {v : Nat} {one two both : List Int} (h : TwP q (v + 1) one two both) : TwP q v one two both := by
 refine ⟨by have := h.hv; omega, fun l hl => ?_, h.mem, h.con, by have := h.len1; omega, by have := h.len2; omega, by have := h.len3; omega⟩
 have := h.rng l hl
 omega
theorem TwP.snoc {q : Int} {v : Nat} {both : List Int} {l : Int} (hv : ((v + 1 : Nat) : Int) ≤ q) (hr : ∀ l ∈ both, (((v + 1 : Nat) : Int) < l ∧ l ≤ q) ∨ (((v + 1 : Nat) : Int) < -l ∧ -l ≤ q)) (hc : ∀ l ∈ both, -l ∉ both) (hl : l = ((v + 1 : Nat) : Int) ∨ l = -((v + 1 : Nat) : Int)) : (∀ x ∈ both ++ [l], ((v : Int) < x ∧ x ≤ q) ∨ ((v : Int) < -x ∧ -x ≤ q)) ∧ ∀ x ∈ both ++ [l], -x ∉ both ++ [l] := by
 constructor
 ·intro x hx
  rcases List.mem_append.1 hx with hx | hx
  ·have := hr x hx; omega
  ·rw [List.mem_singleton.1 hx]; omega
 ·intro x hx hx2
  rcases List.mem_append.1 hx with hx | hx <;> rcases List.mem_append.1 hx2 with hx2 | hx2
  ·exact hc x hx hx2
  ·have := hr x hx
   rw [List.mem_singleton] at hx2; omega
  ·have := hr _ hx2
   rw [List.mem_singleton] at hx; omega
  ·rw [List.mem_singleton] at hx hx2; omega
theorem TwP.one {q : Int} {v : Nat} {one two both : List Int} {l : Int} (h : TwP q (v + 1) one two both) (hl : l = ((v + 1 : Nat) : Int) ∨ l = -((v + 1 : Nat) : Int)) : TwP q v (one ++ [l]) two (both ++ [l]) := by
 obtain ⟨h1, h2⟩ := TwP.snoc h.hv h.rng h.con hl
 have a1 := h.len1; have a2 := h.len2; have a3 := h.len3; have a4 := h.hv
 refine ⟨by omega, h1, fun x => ?_, h2, by simp; omega, by omega, by simp; omega⟩
 simp only [List.mem_append, List.mem_singleton, h.mem]
 constructor
 ·rintro ((h | h) | h) <;> simp [h]
 ·rintro ((h | h) | h) <;> simp [h]
theorem givenT_both {one two both : List Int} (mem : ∀ l, l ∈ both ↔ l ∈ one ∨ l ∈ two) (con : ∀ l ∈ both, -l ∉ both) (L : List (List Int)) : givenT two (givenT one L) = givenT both L := by
 have h1 : ∀ c, (openC one c && openC two (restC one c)) = openC both c := fun c => by
  unfold openC restC
  rw [Bool.eq_iff_iff]
  simp only [Bool.and_eq_true, Bool.not_eq_true', List.any_eq_false, decide_eq_true_eq, List.mem_filter]
  constructor
  ·rintro ⟨k1, k2⟩ l hl hb
   rcases (mem l).1 hb with h | h
   ·exact k1 l hl h
   ·refine k2 l ⟨hl, ?_⟩ h
    exact decide_eq_false fun hn => con l hb ((mem _).2 (.inl hn))
  ·intro k
   exact ⟨fun l hl h => k l hl ((mem l).2 (.inl h)), fun l hl h => k l hl.1 ((mem l).2 (.inr h))⟩
 have h2 : ∀ c, restC two (restC one c) = restC both c := fun c => by
  unfold restC
  rw [List.filter_filter]
  congr 1
  funext l
  rw [Bool.eq_iff_iff]
  simp only [Bool.and_eq_true, Bool.not_eq_true', decide_eq_false_iff_not, mem]
  constructor
  ·rintro ⟨k1, k2⟩ (h | h)
   ·exact k2 h
   ·exact k1 h
  ·intro k
   exact ⟨fun h => k (.inr h), fun h => k (.inl h)⟩
 unfold givenT
 induction L with
 | nil => rfl
 | cons c L ih =>
  have hc := h1 c
  cases ho : openC one c
  ·rw [ho, Bool.false_and] at hc
   rw [List.filter_cons, List.filter_cons, ho, ← hc]
   simpa using ih
  ·rw [ho, Bool.true_and] at hc
   rw [List.filter_cons (p := openC one), List.filter_cons (p := openC both), ho, ← hc]
   simp only [if_true, List.map_cons]
   rw [List.filter_cons]
   cases ho2 : openC two (restC one c)
   ·simpa using ih
   ·simp only [if_true, List.map_cons, h2]
    rw [ih]
end Go.Proofs.YtllkogdgmmcfgaaGreatDoor
/- Pl4: Plain laws: normal forms see clauses as sets of literals; what is left where a term is true; no program. -/
namespace Go.Proofs.YtllkogdgmmcfgaaGreatDoor
set_option linter.unusedVariables false
set_option linter.unusedSimpArgs false
set_option linter.unusedSectionVars false
open Go.RowKit
set_option maxRecDepth 100000
theorem sortK_congr {c d : List Int} (h : ∀ y, y ∈ c ↔ y ∈ d) (k : Nat) : sortK c k = sortK d k := by
 unfold sortK
 congr 1
 funext i
 simp only [h]
theorem normL_congr {N : Int} {L M : List (List Int)} (hL : checkT N L = 0) (hM : checkT N M = 0) (h1 : ∀ c ∈ L, ∃ d ∈ M, ∀ y, y ∈ c ↔ y ∈ d) (h2 : ∀ d ∈ M, ∃ c ∈ L, ∀ y, y ∈ d ↔ y ∈ c) : normL L = normL M := by
 refine strict_unique clLt_asymm (normL_strict hL) (normL_strict hM) fun z => ?_
 rw [normL_mem hL, normL_mem hM]
 constructor
 ·rintro ⟨c, hc, h3, rfl⟩
  obtain ⟨d, hd, hy⟩ := h1 c hc
  exact ⟨d, hd, by rw [← altK_congr hy]; exact h3, sortK_congr hy _⟩
 ·rintro ⟨d, hd, h3, rfl⟩
  obtain ⟨c, hc, hy⟩ := h2 d hd
  exact ⟨c, hc, by rw [← altK_congr hy]; exact h3, sortK_congr hy _⟩
theorem litHolds_opp {s : BitVec 128} {l : Int} (h : litHolds s l = true) : litHolds s (-l) = false := by
 unfold litHolds at *
 simp only [Bool.and_eq_true, decide_eq_true_eq, beq_iff_eq] at h
 obtain ⟨h1, h2⟩ := h
 have hr : (1 ≤ l ∧ l ≤ 128) ∨ (-128 ≤ l ∧ l ≤ -1) := by
  rcases Classical.em (1 ≤ l ∧ l ≤ 128) with h | h
  ·exact .inl h
  ·rcases Classical.em (-128 ≤ l ∧ l ≤ -1) with k | k
   ·exact .inr k
   ·rw [litVar_no (by omega)] at h1; omega
 rcases hr with ⟨a, b⟩ | ⟨a, b⟩
 ·rw [litVar_pos a b] at h2
  rw [litVar_neg (by omega) (by omega), Int.neg_neg, h2, decide_eq_true (by omega : 0 < l), decide_eq_false (by omega : ¬ 0 < -l)]; simp
 ·rw [litVar_neg a b] at h2
  rw [litVar_pos (by omega) (by omega), h2, decide_eq_false (by omega : ¬ 0 < l), decide_eq_true (by omega : 0 < -l)]; simp
end Go.Proofs.YtllkogdgmmcfgaaGreatDoor
/- Tp1: Plain laws of claims: terms of claims are terms; residuals; no program. -/
namespace Go.Proofs.YtllkogdgmmcfgaaGreatDoor
set_option linter.unusedVariables false
set_option linter.unusedSimpArgs false
set_option linter.unusedSectionVars false
open Go.RowKit
set_option maxRecDepth 100000
theorem row_has {N : Int} (hN : N ≤ 128) {ts : List Int} {j : Nat} (hj : j ≤ ts.length) (h : ∀ i, i < j → litOk (ts.getD i 0) N = true) : ∀ i, i < j → sHas (varsRow 0#128 ts j) (litVar (ts.getD i 0)) = true := by
 induction j with
 | zero => intro i hi; omega
 | succ j ih =>
  intro i hi
  rw [varsRow_succ 0#128 (by omega), sHas_with]
  by_cases e : i < j
  ·rw [ih (by omega) (fun i hi => h i (by omega)) i e, Bool.true_or]
  ·obtain rfl : i = j := by omega
   have := litVar_abs (h i (by omega))
   have h2 : decide (litVar (ts.getD i 0) = litVar (ts.getD i 0) ∧ 1 ≤ litVar (ts.getD i 0) ∧ litVar (ts.getD i 0) ≤ 128) = true := by
    rw [decide_eq_true_eq]; exact ⟨rfl, by omega, by omega⟩
   rw [h2, Bool.or_true]
theorem good_lits {N m : Int} {ts cs : List Int} (h : goodB N m ts cs = true) : ∀ l ∈ ts, litOk l N = true := by
 intro l hl
 obtain ⟨i, hi, rfl⟩ := List.getElem_of_mem hl
 have := (good_parts h).1 i hi
 rw [tmOk, Bool.and_eq_true] at this
 have e : ts.getD i 0 = ts[i] := by simp [List.getD, hi]
 rw [← e]; exact this.1
theorem good_var {N m : Int} (hN : N ≤ 128) {ts cs : List Int} (h : goodB N m ts cs = true) {i j : Nat} (hij : i < j) (hj : j < ts.length) : litVar (ts.getD i 0) ≠ litVar (ts.getD j 0) := by
 intro e
 have h1 := (good_parts h).1
 have h2 := h1 j hj
 have h3 := row_has hN (ts := ts) (j := j) (by omega) (fun k hk => by have := h1 k (by omega); rw [tmOk, Bool.and_eq_true] at this; exact this.1) i hij
 rw [tmOk, ← e, h3, Bool.and_eq_true] at h2
 cases h2.2
theorem litVar_opp {l N : Int} (h : litOk l N = true) : litVar (-l) = litVar l ∧ -l ≠ l := by
 have := litVar_range l
 simp only [litOk, Bool.and_eq_true, decide_eq_true_eq] at h
 have h1 := h.1
 unfold litVar at h1 ⊢
 split at h1
 ·rename_i h2
  rw [if_neg (by omega), if_pos (by omega), if_pos h2]
  exact ⟨by omega, by omega⟩
 ·split at h1
  ·rename_i h2 h3
   rw [if_pos (by omega), if_neg h2, if_pos h3]
   exact ⟨rfl, by omega⟩
  ·omega
theorem good_opp {N m : Int} (hN : N ≤ 128) {ts cs : List Int} (h : goodB N m ts cs = true) : ∀ l ∈ ts, -l ∉ ts := by
 intro l hl hn
 have hl' := good_lits h l hl
 obtain ⟨e1, e2⟩ := litVar_opp hl'
 obtain ⟨i, hi, rfl⟩ := List.getElem_of_mem hl
 obtain ⟨j, hj, e⟩ := List.getElem_of_mem hn
 have ei : ts.getD i 0 = ts[i] := by simp [List.getD, hi]
 have ej : ts.getD j 0 = ts[j] := by simp [List.getD, hj]
 rcases Nat.lt_trichotomy i j with hij | rfl | hij
 ·exact good_var hN h hij hj (by rw [ei, ej, e, e1])
 ·exact e2 e.symm
 ·exact good_var hN h hij hi (by rw [ei, ej, e, e1])
theorem good_term {N m : Int} (hN : N ≤ 128) {ts cs : List Int} (h : goodB N m ts cs = true) : termR N ts = true := by
 unfold termR
 refine List.all_eq_true.2 fun l hl => ?_
 rw [good_lits h l hl, Bool.true_and, Bool.not_eq_true', decide_eq_false_iff_not]
 exact good_opp hN h l hl
def rowsOf (L : List (List Int)) (is : List Int) : List (List Int) := is.map fun i => L.getD i.toNat []
theorem rowsOf_len (L : List (List Int)) (is : List Int) : (rowsOf L is).length = is.length := List.length_map _
theorem rowsOf_succ (L : List (List Int)) {is : List Int} {k : Nat} (h : k < is.length) : rowsOf L (is.take (k + 1)) = rowsOf L (is.take k) ++ [L.getD (is.getD k 0).toNat []] := by
 unfold rowsOf
 rw [List.take_succ_eq_append_getElem h, List.map_append]
 simp [List.getD, h]
theorem good_mem {N m : Int} {ts cs : List Int} (h : goodB N m ts cs = true) : ∀ i ∈ cs, 0 ≤ i ∧ i < m := by
 intro i hi
 obtain ⟨k, hk, rfl⟩ := List.getElem_of_mem hi
 have := good_ix h k hk
 have e : cs.getD k 0 = cs[k] := by simp [List.getD, hk]
 rw [e] at this
 omega
theorem rowsOf_check {N : Int} {L : List (List Int)} {is : List Int} (hz : checkT N L = 0) (hn : is.length ≤ 4096) (h : ∀ i ∈ is, 0 ≤ i ∧ i < L.length) : checkT N (rowsOf L is) = 0 := by
 obtain ⟨h0, h1, _, h3⟩ := checkT_ok hz
 refine checkT_of h0 h1 (by rw [rowsOf_len]; exact hn) fun c hc => ?_
 unfold rowsOf at hc
 obtain ⟨i, hi, rfl⟩ := List.mem_map.1 hc
 have := h i hi
 exact h3 _ (getD_memL (by omega))
theorem good_len {N m : Int} {ts cs : List Int} (h : goodB N m ts cs = true) (hm : m ≤ 4096) : cs.length ≤ 4096 := by
 by_cases h0 : cs.length = 0
 ·omega
 ·have := good_ix h (cs.length - 1) (by omega)
  omega
def rsdL (L : List (List Int)) (ts cs : List Int) : List (List Int) := normL (givenT ts (rowsOf L (keptL L ts cs)))
def resA (N : Int) (L : List (List Int)) (ts cs : List Int) : AV := if checkT N L = 0 ∧ goodB N L.length ts cs = true then .tup [aTh N (rsdL L ts cs), .v (.int .i64 0)] else .tup [.agg [.v (.int .i64 0), .v (.slice none 0 0)], .v (.int .i64 1)]
theorem kept_mem {L : List (List Int)} {ts cs : List Int} {i : Int} (h : i ∈ keptL L ts cs) : i ∈ cs := (List.mem_filter.1 h).1
theorem left_check {N : Int} {L : List (List Int)} {ts cs : List Int} (hz : checkT N L = 0) (hg : goodB N L.length ts cs = true) : checkT N (rowsOf L (keptL L ts cs)) = 0 := by
 obtain ⟨_, _, h2, _⟩ := checkT_ok hz
 have h1 := good_len hg (by omega)
 have h3 := keptL_len L ts cs
 exact rowsOf_check hz (by omega) fun i hi => good_mem hg i (kept_mem hi)
theorem res_check {N : Int} {L : List (List Int)} {ts cs : List Int} (hz : checkT N L = 0) (hg : goodB N L.length ts cs = true) : checkT N (rsdL L ts cs) = 0 := normL_check (givenT_check (left_check hz hg) ts)
end Go.Proofs.YtllkogdgmmcfgaaGreatDoor
/- Tr3: Contract of trace.Residual, by the abstract machine; no condition. -/
namespace Go.Proofs.YtllkogdgmmcfgaaGreatDoor
set_option linter.unusedVariables false
set_option linter.unusedSimpArgs false
set_option linter.unusedSectionVars false
open Go.RowKit
open Wlk
attribute [-simp] List.getD_eq_getElem?_getD
set_option maxRecDepth 100000
set_option maxHeartbeats 4000000 in
theorem residual_p (N : Int) (L : List (List Int)) (ts cs : List Int) (hN : okI N = true) (hL : okRows L = true) (ht : okInts ts = true) (hc : okInts cs = true) : FnPure Tryz.prog 24 [aTh N L, aCl ts cs] (resA N L ts cs) := by
 have lt := okInts_len ht
 have lc := okInts_len hc
 have ti1 := toInts_ints ts
 have ti2 := toInts_ints cs
 unfold aTh
 by_cases hz : checkT N L = 0 ∧ goodB N L.length ts cs = true
 ·have hA : resA N L ts cs = .tup [.agg [.v (.int .i64 N), aRows (rsdL L ts cs)], .v (.int .i64 0)] := by unfold resA; rw [if_pos hz]; rfl
  have hB : keptA N L ts cs = .tup [aInts (keptL L ts cs), .v (.int .i64 0)] := by unfold keptA; rw [if_pos hz]
  obtain ⟨hz, hg⟩ := hz
  have hck := left_check hz hg
  have hgm := fun i hi => good_mem hg i (kept_mem (L := L) (ts := ts) (i := i) hi)
  have hll := keptL_len L ts cs
  have h128 := (checkT_ok hz).2.1
  have hl4 : (keptL L ts cs).length ≤ 4096 := by have := good_len hg (by have := (checkT_ok hz).2.2.1; omega); omega
  have htm := good_term h128 hg
  have hgA : givenA N (rowsOf L (keptL L ts cs)) ts = .tup [.agg [.v (.int .i64 N), aRows (givenT ts (rowsOf L (keptL L ts cs)))], .v (.int .i64 0)] := by unfold givenA; rw [if_pos hck, if_pos htm]; rfl
  have hgc := givenT_check hck ts
  have hnA : normA N (givenT ts (rowsOf L (keptL L ts cs))) = .tup [.agg [.v (.int .i64 N), aRows (rsdL L ts cs)], .v (.int .i64 0)] := by unfold normA; rw [if_pos hgc]; rfl
  have hgr := okRows_check hgc
  have hrr := okRows_check hck
  clear hck hgc htm h128 hg
  generalize givenT ts (rowsOf L (keptL L ts cs)) = Y at hgA hnA hgr
  generalize rsdL L ts cs = Z at hA hnA
  unfold aCl
  obtain ⟨ls, hls⟩ : ∃ ls, keptL L ts cs = ls := ⟨_, rfl⟩
  rw [hls] at hB hgA hgm hll hrr hl4
  clear hls
  refine fn_sp TT_ok Tryz.func24 (c := _) rfl (by simp [Tryz.ntmps24]) (fun B hI0 hro => ?_)
  rw [Tryz.ntmps24]
  simp only [enumA]
  refine amGo PT25_ok (h := ?_)
  refine s_cnil 6 0 1 40 30 1 rfl rfl (by simp) ?_ (by decide)
  (refine s_eq (τ := ?_) ?_ ?_; rotate_left; (focus ((try simp only [AS.frz, List.map_cons, List.map_nil]); (try simp [frzV, frzO, frzC, List.filter]); rfl)))
  refine s_loop (J := fun i : {k : Nat // k ≤ ls.length} => ⟨56, [(2, .ptr 0 0 0), (3, .ptr 1 0 0), (4, .ptr 2 0 0), (5, .v (.int .i64 0)), (8, .ptr 6 0 0), (24, aInts ls), (25, .v (.int .i64 (ls.length : Int))), (26, .v (.int .i64 (i.1 : Int)))], [(40, ⟨30, 1, (rowsOf L (ls.take i.1)).map fun xs => [aInts xs]⟩), (0, ⟨24, 2, [[.v (.int .i64 N), aRows L]]⟩), (1, ⟨37, 2, [[aInts ts, aInts cs]]⟩), (2, ⟨24, 2, [[.v (.int .i64 0), .v (.slice none 0 0)]]⟩), (6, ⟨24, 2, [[.v (.int .i64 N), .ref 40 0 i.1]]⟩)], [40, 6, 2, 1, 0]⟩) (μ := fun i => ls.length - i.1) ⟨0, Nat.zero_le _⟩ ?_ (fun ⟨k, hk⟩ => ?_)
  ·have hk0 : rowsOf L [] = [] := rfl
   (refine weak_id rfl ?_ ?_ <;> ((try simp only [List.mem_cons, List.not_mem_nil, or_false, forall_eq_or_imp, forall_eq]); (try simp (disch := omega) [i64w, *])))
  have hkl : (rowsOf L (ls.take k)).length = k := by rw [rowsOf_len, List.length_take]; omega
  have c1 : (k + 1) * 24 ≤ 140737488355328 := by omega
  refine amGo PT25_ok (h := ?_)
  (focus ((with_reducible refine sp_cond (b := ?_) ?_ (fun hc => ?_) (fun hc => ?_)); rotate_left; (focus (first | rfl | (simp [lk, AS.ev]; rfl))); all_goals (try simp at hc)))
  ·have hkk := hc
   clear hc
   have hts := rowsOf_succ L hkk
   have hx := hgm _ (getD_memI hkk)
   obtain ⟨x, hxe⟩ : ∃ x, ls.getD k 0 = x := ⟨_, rfl⟩
   rw [hxe] at hx hts
   have x0 : 0 ≤ x := hx.1
   have x1 : x < L.length := hx.2
   have hmx : max x 0 = x := by omega
   have hx2 : x.toNat < L.length := by omega
   clear hgm
   refine amGo PT25_ok (h := ?_)
   refine k_lp (⟨k + 1, by omega⟩ : {k : Nat // k ≤ ls.length}) (by dsimp only; omega) ?_
   (refine weak_of (fun k => if k = 40 then 49 else k) ⟨rfl, ?_, ?_, ?_⟩ <;> ((try simp only [List.mem_cons, List.not_mem_nil, or_false, forall_eq_or_imp, forall_eq]); (try simp (disch := omega) [lk, AV.ids, idsL, idsLL, AV.ren, renL, renLL, i64w, *])))
  ·obtain rfl : k = ls.length := by omega
   rw [List.take_length] at hkl ⊢
   clear hc c1
   refine amStr (h := ?_)
   refine s_weak ⟨56, [(2, .ptr 0 0 0), (3, .ptr 1 0 0), (4, .ptr 2 0 0), (5, .v (.int .i64 0)), (8, .ptr 6 0 0)], [(40, ⟨30, 1, (rowsOf L ls).map fun xs => [aInts xs]⟩), (0, ⟨24, 2, [[.v (.int .i64 N), aRows L]]⟩), (1, ⟨37, 2, [[aInts ts, aInts cs]]⟩), (2, ⟨24, 2, [[.v (.int .i64 0), .v (.slice none 0 0)]]⟩), (6, ⟨24, 2, [[.v (.int .i64 N), .ref 40 0 (rowsOf L ls).length]]⟩)], [40, 6, 2, 1, 0]⟩ ?_ ?_
   ·(refine weak_id rfl ?_ ?_ <;> ((try simp only [List.mem_cons, List.not_mem_nil, or_false, forall_eq_or_imp, forall_eq]); (try simp (disch := omega) [i64w, *])))
   clear hkl
   generalize rowsOf L ls = R at hgA hrr ⊢
   refine s_frz (fun k => k == 40) ?_
   (refine s_eq (τ := ?_) ?_ ?_; rotate_left; (focus ((try simp only [AS.frz, List.map_cons, List.map_nil]); (try simp [frzV, frzO, frzC, List.filter]); rfl)))
   refine amGo PT25_ok (h := ?_)
   (refine amRt Tryz.results24 (h := ?_); try simp [*])
 ·have hA : resA N L ts cs = .tup [.agg [.v (.int .i64 0), .v (.slice none 0 0)], .v (.int .i64 1)] := by unfold resA; rw [if_neg hz]
  have hB : keptA N L ts cs = .tup [.v (.slice none 0 0), .v (.int .i64 1)] := by unfold keptA; rw [if_neg hz]
  unfold aCl
  refine fn_sp TT_ok Tryz.func24 (c := _) rfl (by simp [Tryz.ntmps24]) (fun B hI0 hro => ?_)
  rw [Tryz.ntmps24]
  simp only [enumA]
  refine amGo PT25_ok (h := ?_)
  (refine amRt Tryz.results24 (h := ?_); try simp [*])
@[simp] def g_trRes : List AV → Option (AV × Bool)
 | [.agg [.v (.int .i64 N), a0], .agg [a1, b1]] => (match toRows a0 with | some L => (match toInts a1 with | some ts => (match toInts b1 with | some cs => if (okI N && okRows L && okInts ts && okInts cs) = true then some (resA N L ts cs, false) else none | none => none) | none => none) | none => none)
 | _ => none
theorem e_trRes : EntOk Tryz.prog 24 g_trRes := ent_pure (by kernel_rfl) fun args r fr h => by
 unfold g_trRes at h
 split at h
 ·rename_i N a0 a1 b1
  split at h
  ·rename_i L t0
   split at h
   ·rename_i ts t1
    split at h
    ·rename_i cs s1
     split at h
     ·rename_i hc
      simp only [Bool.and_eq_true] at hc
      obtain ⟨⟨⟨m0, o0⟩, o1⟩, p1⟩ := hc
      cases h
      exact ⟨FnPure.cov (residual_p N L ts cs m0 o0 o1 p1) (.cons (cov_th _ (cov_rows t0)) (.cons (cov_cl t1 s1) .nil)), rfl⟩
     ·cases h
    ·cases h
   ·cases h
  ·cases h
 ·cases h

def l26 : List (FuncId × (List AV → Option (AV × Bool))) :=
 (24, g_trRes) :: l25
theorem l26_ok : ∀ p ∈ l26, EntOk Tryz.prog p.1 p.2 := ent_cons e_trRes (l25_ok)
def PT26 : PTab := tab l26
theorem PT26_ok : PTok Tryz.prog PT26 := tab_ok l26_ok
@[simp] theorem PT26_trRes : PT26 24 = g_trRes := rfl
@[simp] theorem PT26_old (f : FuncId) (h : decide (f ≠ 24) = true) : PT26 f = PT25 f := tab_old (of_decide_eq_true h)
end Go.Proofs.YtllkogdgmmcfgaaGreatDoor
/- Fa22: Contracts of censusref22: in, variable, Same, Formed; no condition. -/
namespace Go.Proofs.YtllkogdgmmcfgaaGreatDoor
set_option linter.unusedVariables false
set_option linter.unusedSimpArgs false
set_option linter.unusedSectionVars false
open Go.RowKit
open Wlk
attribute [-simp] List.getD_eq_getElem?_getD
set_option maxRecDepth 100000
theorem r2Var_p (x : Int) (hx : okS x = true) : FnPure Tryz.prog 130 [.v (.int .i64 x)] (.v (.int .i64 (absI x))) := by
 simp only [okS, Bool.and_eq_true, decide_eq_true_eq] at hx
 by_cases h : x < 0
 ·have hw : IntKind.i64.wrap (-x) = -x := i64w (by omega) (by omega)
  refine fn_sp TT_ok Tryz.func130 (c := _) rfl (by simp [Tryz.ntmps130]) (fun B hI0 hro => ?_)
  rw [Tryz.ntmps130]
  simp only [enumA]
  refine amGo PT26_ok (h := ?_)
  (refine amRt Tryz.results130 (h := ?_); try simp [*])
  simp [absI, h]
 ·refine fn_sp TT_ok Tryz.func130 (c := _) rfl (by simp [Tryz.ntmps130]) (fun B hI0 hro => ?_)
  rw [Tryz.ntmps130]
  simp only [enumA]
  refine amGo PT26_ok (h := ?_)
  (refine amRt Tryz.results130 (h := ?_); try simp [*])
  simp [absI, h]
@[simp] def g_r2Var : List AV → Option (AV × Bool)
 | [.v (.int .i64 x)] => if (okI x && okS x) = true then some (.v (.int .i64 (absI x)), false) else none
 | _ => none
theorem e_r2Var : EntOk Tryz.prog 130 g_r2Var := ent_pure (by kernel_rfl) fun args r fr h => by
 unfold g_r2Var at h
 split at h
 ·rename_i x
  split at h
  ·rename_i hc
   simp only [Bool.and_eq_true] at hc
   obtain ⟨o0, hk⟩ := hc
   cases h
   exact ⟨FnPure.cov (r2Var_p x hk) (.cons (Cov.refl _) .nil), rfl⟩
  ·cases h
 ·cases h

def l70 : List (FuncId × (List AV → Option (AV × Bool))) :=
 (130, g_r2Var) :: l26
theorem l70_ok : ∀ p ∈ l70, EntOk Tryz.prog p.1 p.2 := ent_cons e_r2Var (l26_ok)
def PT70 : PTab := tab l70
theorem PT70_ok : PTok Tryz.prog PT70 := tab_ok l70_ok
@[simp] theorem PT70_r2Var : PT70 130 = g_r2Var := rfl
@[simp] theorem PT70_old (f : FuncId) (h : decide (f ≠ 130) = true) : PT70 f = PT26 f := tab_old (of_decide_eq_true h)
end Go.Proofs.YtllkogdgmmcfgaaGreatDoor
/- Fm22: Contract of censusref22.Formed; no condition. -/
namespace Go.Proofs.YtllkogdgmmcfgaaGreatDoor
set_option linter.unusedVariables false
set_option linter.unusedSimpArgs false
set_option linter.unusedSectionVars false
open Go.RowKit
open Wlk
attribute [-simp] List.getD_eq_getElem?_getD
set_option maxRecDepth 100000
theorem absI_lit {x N : Int} (h : litOk x N = true) : absI x = litVar x := by
 obtain ⟨h1, h2, h3, h4, h5⟩ := litVar_abs h
 unfold absI
 rcases h1 with h1 | h1
 ·rw [if_neg (by have := h4 h1; omega), h1]
 ·rw [if_pos (by have := h5 h1; omega), h1]
theorem okS_lit {x N : Int} (h : litOk x N = true) : okS x = true := by
 obtain ⟨h1, h2, _⟩ := litOk_range h
 simp only [okS, Bool.and_eq_true, decide_eq_true_eq]; exact ⟨h1, h2⟩
theorem row_hasnt {ts : List Int} {u : Int} {j : Nat} (hj : j ≤ ts.length) (h : ∀ i, i < j → litVar (ts.getD i 0) ≠ u) : sHas (varsRow 0#128 ts j) u = false := by
 induction j with
 | zero => unfold varsRow sHas; simp
 | succ j ih =>
  rw [varsRow_succ 0#128 (by omega), sHas_with, ih (by omega) (fun i hi => h i (by omega)), decide_eq_false (fun e => h j (by omega) e.1.symm)]
  rfl
theorem litOk_no {l N : Int} (hN : N ≤ 128) (h : litOk l N = false) : l = 0 ∨ N < l ∨ l < -N := by
 by_cases h0 : l = 0
 ·exact .inl h0
 ·by_cases h1 : N < l
  ·exact .inr (.inl h1)
  ·by_cases h2 : l < -N
   ·exact .inr (.inr h2)
   ·rw [litOk_of hN (by omega)] at h; cases h
theorem ix_nonneg {cs : List Int} {m : Int} : ∀ {k : Nat}, (∀ j, j < k → ixAsc cs m j = true) → -1 ≤ lastK cs k
 | 0, _ => by simp [lastK]
 | k + 1, h => by
  have h1 := ix_nonneg (k := k) fun j hj => h j (by omega)
  have h2 := h k (by omega)
  rw [ixAsc, Bool.and_eq_true, decide_eq_true_eq] at h2
  rw [lastK_succ]; omega
set_option maxHeartbeats 2000000 in
theorem formed22_p (N m : Int) (ts cs : List Int) (hN : okI N = true) (hm : okI m = true) (ht : okInts ts = true) (hc : okInts cs = true) (hn : decide (0 ≤ N) = true ∧ decide (N ≤ 128) = true) : FnPure Tryz.prog 99 [aCl ts cs, .v (.int .i64 N), .v (.int .i64 m)] (.v (.bool (goodB N m ts cs))) := by
 have lt := okInts_len ht
 have lc := okInts_len hc
 rw [decide_eq_true_eq, decide_eq_true_eq] at hn
 obtain ⟨n0, n1⟩ := hn
 have hwn : IntKind.i64.wrap (-N) = -N := i64w (by omega) (by omega)
 unfold aCl goodB
 refine fn_sp TT_ok Tryz.func99 (c := _) rfl (by simp [Tryz.ntmps99]) (fun B hI0 hro => ?_)
 rw [Tryz.ntmps99]
 simp only [enumA]
 refine amGo PT70_ok (h := ?_)
 refine s_loop (J := fun i : {k : Nat // k ≤ ts.length ∧ ∀ j, j < k → tmOk N ts j = true} => ⟨90, [(1, .v (.int .i64 N)), (2, .v (.int .i64 m)), (3, .ptr 0 0 0), (7, .v (.int .i64 (i.1 : Int)))], [(0, ⟨37, 2, [[aInts ts, aInts cs]]⟩)], [0]⟩) (μ := fun i => ts.length - i.1) ⟨0, Nat.zero_le _, fun j hj => by omega⟩ ?_ (fun ⟨k, hk, he⟩ => ?_)
 ·(refine weak_id rfl ?_ ?_ <;> ((try simp only [List.mem_cons, List.not_mem_nil, or_false, forall_eq_or_imp, forall_eq]); (try simp (disch := omega) [i64w, *])))
 have hcs := hc
 clear hc
 refine amGo PT70_ok (h := ?_)
 (focus ((with_reducible refine sp_cond (b := ?_) ?_ (fun hc => ?_) (fun hc => ?_)); rotate_left; (focus (first | rfl | (simp [lk, AS.ev]; rfl))); all_goals (try simp at hc)))
 ·have hkk := hc
  clear hc
  have hl := okI_iff.2 (okInts_at ht k)
  cases h1 : litOk (ts.getD k 0) N
  ·have hf := all_range_f (f := tmOk N ts) hkk (by unfold tmOk; rw [h1]; rfl)
   by_cases g1 : ts.getD k 0 = 0
   ·refine amGo PT70_ok (h := ?_)
    (refine amRt Tryz.results99 (h := ?_); try simp [*])
   ·have gb : (ts.getD k 0 == 0) = false := by simp only [beq_eq_false_iff_ne]; exact g1
    by_cases g2 : N < ts.getD k 0
    ·refine amGo PT70_ok (h := ?_)
     (refine amRt Tryz.results99 (h := ?_); try simp [*])
    ·have g3 : ts.getD k 0 < -N := by rcases litOk_no n1 h1 with h | h | h; exact absurd h g1; exact absurd h g2; exact h
     refine amGo PT70_ok (h := ?_)
     (refine amRt Tryz.results99 (h := ?_); try simp [*])
  ·have hlo := h1
   obtain ⟨r1, r2, g1, r4, r5⟩ := litOk_range h1
   have gb : (ts.getD k 0 == 0) = false := by simp only [beq_eq_false_iff_ne]; exact g1
   have g2 : ¬ N < ts.getD k 0 := by omega
   have g3 : ¬ ts.getD k 0 < -N := by omega
   have hax := absI_lit h1
   have hos := okS_lit h1
   have hbe : ∀ j, j < k → litOk (ts.getD j 0) N = true := fun j hj => by have := he j hj; rw [tmOk, Bool.and_eq_true] at this; exact this.1
   refine amGo PT70_ok (h := ?_)
   refine s_loop (J := fun i : {j : Nat // j ≤ k ∧ ∀ i, i < j → litVar (ts.getD i 0) ≠ litVar (ts.getD k 0)} => ⟨90, [(1, .v (.int .i64 N)), (2, .v (.int .i64 m)), (3, .ptr 0 0 0), (7, .v (.int .i64 (k : Int))), (8, .v (.int .i64 (ts.getD k 0))), (9, .v (.int .i64 (i.1 : Int)))], [(0, ⟨37, 2, [[aInts ts, aInts cs]]⟩)], [0]⟩) (μ := fun i => k - i.1) ⟨0, Nat.zero_le _, fun j hj => by omega⟩ ?_ (fun ⟨j, hj, hd⟩ => ?_)
   ·(refine weak_id rfl ?_ ?_ <;> ((try simp only [List.mem_cons, List.not_mem_nil, or_false, forall_eq_or_imp, forall_eq]); (try simp (disch := omega) [i64w, *])))
   refine amGo PT70_ok (h := ?_)
   (focus ((with_reducible refine sp_cond (b := ?_) ?_ (fun hc => ?_) (fun hc => ?_)); rotate_left; (focus (first | rfl | (simp [lk, AS.ev]; rfl))); all_goals (try simp at hc)))
   ·have hjk := hc
    have hjl : j < ts.length := by omega
    have hlj := okI_iff.2 (okInts_at ht j)
    have hol := hbe j hjk
    have hoj := okS_lit hol
    have haj := absI_lit hol
    clear hc hol
    have hhas := row_has n1 hk hbe j hjk
    clear hbe
    by_cases e : litVar (ts.getD j 0) = litVar (ts.getD k 0)
    ·have hf := all_range_f (f := tmOk N ts) hkk (by unfold tmOk; rw [← e, hhas, Bool.not_true, Bool.and_false])
     have eb : (litVar (ts.getD j 0) == litVar (ts.getD k 0)) = true := by simp only [beq_iff_eq]; exact e
     clear hhas e
     refine amGo PT70_ok (h := ?_)
     (refine amRt Tryz.results99 (h := ?_); try simp [*])
    ·clear hhas
     have eb : (litVar (ts.getD j 0) == litVar (ts.getD k 0)) = false := by simp only [beq_eq_false_iff_ne]; exact e
     refine amGo PT70_ok (h := ?_)
     refine k_lp (⟨j + 1, by omega, fun i hi => ?_⟩ : {j : Nat // j ≤ k ∧ ∀ i, i < j → litVar (ts.getD i 0) ≠ litVar (ts.getD k 0)}) (by first | (dsimp only; omega) | omega) ?_
     ·by_cases e2 : i < j
      ·exact hd i e2
      ·obtain rfl : i = j := by omega
       exact e
     ·(refine weak_id rfl ?_ ?_ <;> ((try simp only [List.mem_cons, List.not_mem_nil, or_false, forall_eq_or_imp, forall_eq]); (try simp (disch := omega) [i64w, *])))
   ·obtain rfl : j = k := by omega
    clear hc
    have h3 : tmOk N ts j = true := by unfold tmOk; rw [h1, row_hasnt hk hd]; rfl
    refine amGo PT70_ok (h := ?_)
    refine k_lp (⟨j + 1, by omega, fun i hi => ?_⟩ : {k : Nat // k ≤ ts.length ∧ ∀ j, j < k → tmOk N ts j = true}) (by first | (dsimp only; omega) | omega) ?_
    ·by_cases e : i < j
     ·exact he i e
     ·obtain rfl : i = j := by omega
      exact h3
    ·(refine weak_id rfl ?_ ?_ <;> ((try simp only [List.mem_cons, List.not_mem_nil, or_false, forall_eq_or_imp, forall_eq]); (try simp (disch := omega) [i64w, *])))
 ·obtain rfl : k = ts.length := by omega
  clear hc
  have ha := all_range he
  refine amGo PT70_ok (h := ?_)
  refine s_loop (J := fun i : {k : Nat // k ≤ cs.length ∧ ∀ j, j < k → ixAsc cs m j = true} => ⟨90, [(2, .v (.int .i64 m)), (3, .ptr 0 0 0), (10, .v (.int .i64 (i.1 : Int)))], [(0, ⟨37, 2, [[aInts ts, aInts cs]]⟩)], [0]⟩) (μ := fun i => cs.length - i.1) ⟨0, Nat.zero_le _, fun j hj => by omega⟩ ?_ (fun ⟨k, hk, hf⟩ => ?_)
  ·(refine weak_id rfl ?_ ?_ <;> ((try simp only [List.mem_cons, List.not_mem_nil, or_false, forall_eq_or_imp, forall_eq]); (try simp (disch := omega) [i64w, *])))
  refine amGo PT70_ok (h := ?_)
  (focus ((with_reducible refine sp_cond (b := ?_) ?_ (fun hc => ?_) (fun hc => ?_)); rotate_left; (focus (first | rfl | (simp [lk, AS.ev]; rfl))); all_goals (try simp at hc)))
  ·have hkk := hc
   clear hc
   have hnn := ix_nonneg hf
   by_cases q1 : cs.getD k 0 < 0
   ·have hff := all_range_f (f := ixAsc cs m) hkk (by unfold ixAsc; rw [decide_eq_false (show ¬ lastK cs k < cs.getD k 0 by omega)]; rfl)
    refine amGo PT70_ok (h := ?_)
    (refine amRt Tryz.results99 (h := ?_); try simp [*])
   ·by_cases q2 : m ≤ cs.getD k 0
    ·have hff := all_range_f (f := ixAsc cs m) hkk (by unfold ixAsc; rw [decide_eq_false (show ¬ cs.getD k 0 < m by omega), Bool.and_false])
     refine amGo PT70_ok (h := ?_)
     (refine amRt Tryz.results99 (h := ?_); try simp [*])
    ·rcases Nat.eq_zero_or_pos k with rfl | hp2
     ·
      have h3 : ixAsc cs m 0 = true := by unfold ixAsc; rw [decide_eq_true (show lastK cs 0 < cs.getD 0 0 by simp only [lastK, if_true]; omega), decide_eq_true (show cs.getD 0 0 < m by omega)]; rfl
      refine amGo PT70_ok (h := ?_)
      refine k_lp (⟨0 + 1, by omega, fun j hj => ?_⟩ : {k : Nat // k ≤ cs.length ∧ ∀ j, j < k → ixAsc cs m j = true}) (by first | (dsimp only; omega) | omega) ?_
      ·obtain rfl : j = 0 := by omega
       exact h3
      ·(refine weak_id rfl ?_ ?_ <;> ((try simp only [List.mem_cons, List.not_mem_nil, or_false, forall_eq_or_imp, forall_eq]); (try simp (disch := omega) [i64w, *])))
     ·have hlk : lastK cs k = cs.getD (k - 1) 0 := by unfold lastK; rw [if_neg (by omega)]
      obtain ⟨i, hi⟩ : ∃ i, k - 1 = i := ⟨_, rfl⟩
      rw [hi] at hlk
      have hs1 : (k : Int) - 1 = (i : Int) := by omega
      have hw1 : IntKind.i64.wrap (i : Int) = i := i64n i (by omega)
      have hk2 : i < cs.length := by omega
      have hp1 : (0 : Int) < (k : Int) := by omega
      have hi2 : ∀ j, j < k + 1 → ¬ j < k → j = k := fun j h1 h2 => by omega
      clear hi
      by_cases q3 : cs.getD k 0 ≤ cs.getD i 0
      ·have hff := all_range_f (f := ixAsc cs m) hkk (by unfold ixAsc; rw [hlk, decide_eq_false (show ¬ cs.getD i 0 < cs.getD k 0 by omega)]; rfl)
       refine amGo PT70_ok (h := ?_)
       (refine amRt Tryz.results99 (h := ?_); try simp [*])
      ·have h3 : ixAsc cs m k = true := by unfold ixAsc; rw [hlk, decide_eq_true (show cs.getD i 0 < cs.getD k 0 by omega), decide_eq_true (show cs.getD k 0 < m by omega)]; rfl
       refine amGo PT70_ok (h := ?_)
       refine k_lp (⟨k + 1, by omega, fun j hj => ?_⟩ : {k : Nat // k ≤ cs.length ∧ ∀ j, j < k → ixAsc cs m j = true}) (by first | (dsimp only; omega) | omega) ?_
       ·by_cases e : j < k
        ·exact hf j e
        ·obtain rfl := hi2 j hj e
         exact h3
       ·(refine weak_id rfl ?_ ?_ <;> ((try simp only [List.mem_cons, List.not_mem_nil, or_false, forall_eq_or_imp, forall_eq]); (try simp (disch := omega) [i64w, *])))
  ·obtain rfl : k = cs.length := by omega
   have hb := all_range hf
   refine amGo PT70_ok (h := ?_)
   (refine amRt Tryz.results99 (h := ?_); try simp [*])
@[simp] def g_r2Formed : List AV → Option (AV × Bool)
 | [.agg [a0, b0], .v (.int .i64 N), .v (.int .i64 m)] => (match toInts a0 with | some ts => (match toInts b0 with | some cs => if (okInts ts && okInts cs && okI N && okI m && (decide (0 ≤ N) && decide (N ≤ 128))) = true then some (.v (.bool (goodB N m ts cs)), false) else none | none => none) | none => none)
 | _ => none
theorem e_r2Formed : EntOk Tryz.prog 99 g_r2Formed := ent_pure (by kernel_rfl) fun args r fr h => by
 unfold g_r2Formed at h
 split at h
 ·rename_i a0 b0 N m
  split at h
  ·rename_i ts t0
   split at h
   ·rename_i cs s0
    split at h
    ·rename_i hc
     simp only [Bool.and_eq_true] at hc
     obtain ⟨⟨⟨⟨o0, p0⟩, o1⟩, o2⟩, hk⟩ := hc
     cases h
     exact ⟨FnPure.cov (formed22_p N m ts cs o1 o2 o0 p0 hk) (.cons (cov_cl t0 s0) (.cons (Cov.refl _) (.cons (Cov.refl _) .nil))), rfl⟩
    ·cases h
   ·cases h
  ·cases h
 ·cases h

def l71 : List (FuncId × (List AV → Option (AV × Bool))) :=
 (99, g_r2Formed) :: l70
theorem l71_ok : ∀ p ∈ l71, EntOk Tryz.prog p.1 p.2 := ent_cons e_r2Formed (l70_ok)
def PT71 : PTab := tab l71
theorem PT71_ok : PTok Tryz.prog PT71 := tab_ok l71_ok
@[simp] theorem PT71_r2Formed : PT71 99 = g_r2Formed := rfl
@[simp] theorem PT71_old (f : FuncId) (h : decide (f ≠ 99) = true) : PT71 f = PT70 f := tab_old (of_decide_eq_true h)
end Go.Proofs.YtllkogdgmmcfgaaGreatDoor
/- Gi2: Contract of censusref05.Given, by the abstract machine; no condition. -/
namespace Go.Proofs.YtllkogdgmmcfgaaGreatDoor
set_option linter.unusedVariables false
set_option linter.unusedSimpArgs false
set_option linter.unusedSectionVars false
open Go.RowKit
open Wlk
attribute [-simp] List.getD_eq_getElem?_getD
set_option maxRecDepth 100000

def anyK (ts c : List Int) (j : Nat) : Bool := (c.take j).any fun l => decide (l ∈ ts)
theorem anyK_succ {ts c : List Int} {j : Nat} (hj : j < c.length) : anyK ts c (j + 1) = (anyK ts c j || decide (c.getD j 0 ∈ ts)) := by
 have : c.getD j 0 = c[j] := by simp [List.getD, hj]
 unfold anyK
 rw [List.take_succ_eq_append_getElem hj, List.any_append, this]
 simp
set_option maxHeartbeats 4000000 in
theorem rGiven_ok (N : Int) (L : List (List Int)) (ts : List Int) (hN : okI N = true) (h : okRows L = true) (ht : okInts ts = true) (hz : checkT N L = 0) (hr : termR N ts = true) : FnPure Tryz.prog 100 [aTh N L, aInts ts] (.tup [aTh N (givenT ts L), .v (.int .i64 0)]) := by
 have hck := checkT_ok hz
 have hm := okRows_len h
 have hmt := okInts_len ht
 unfold aTh
 refine fn_sp TT_ok Tryz.func100 (c := _) rfl (by simp [Tryz.ntmps100]) (fun B hI0 hro => ?_)
 rw [Tryz.ntmps100]
 simp only [enumA]
 refine amGo PT15_ok (h := ?_)
 refine s_cnil 5 0 1 6 30 1 rfl rfl (by simp) ?_ (by decide)
 (refine s_eq (τ := ?_) ?_ ?_; rotate_left; (focus ((try simp only [AS.frz, List.map_cons, List.map_nil]); (try simp [frzV, frzO, frzC, List.filter]); rfl)))
 refine s_loop (J := fun i : {k : Nat // k ≤ L.length} => ⟨89, [(1, aInts ts), (2, .ptr 0 0 0), (4, .ptr 1 0 0), (7, .ptr 5 0 0), (8, .v (.int .i64 (i.1 : Int)))], [(6, ⟨30, 1, (givenK ts L i.1).map fun xs => [aInts xs]⟩), (0, ⟨24, 2, [[.v (.int .i64 N), aRows L]]⟩), (1, ⟨24, 2, [[.v (.int .i64 0), .v (.slice none 0 0)]]⟩), (5, ⟨24, 2, [[.v (.int .i64 N), .ref 6 0 (givenK ts L i.1).length]]⟩)], [6, 5, 1, 0]⟩) (μ := fun i => L.length - i.1) ⟨0, Nat.zero_le _⟩ ?_ (fun ⟨k, hk⟩ => ?_)
 ·have hk0 : givenK ts L 0 = [] := rfl
  (refine weak_id rfl ?_ ?_ <;> ((try simp only [List.mem_cons, List.not_mem_nil, or_false, forall_eq_or_imp, forall_eq]); (try simp (disch := omega) [i64w, *])))
 have hlen := givenK_len ts L k
 have hcap : ((givenK ts L k).length + 1) * 24 ≤ 140737488355328 := by omega
 refine amGo PT15_ok (h := ?_)
 (focus ((with_reducible refine sp_cond (b := ?_) ?_ (fun hc => ?_) (fun hc => ?_)); rotate_left; (focus (first | rfl | (simp [lk, AS.ev]; rfl))); all_goals (try simp at hc)))
 ·have hkk := hc
  clear hc
  have hci := okRows_at h k
  have hcl := okInts_len hci
  have hmem := getD_memL hkk
  have hks := givenK_succ (ts := ts) hkk
  obtain ⟨hl128, hlit⟩ := hck.2.2.2 _ hmem
  refine amGo PT15_ok (h := ?_)
  refine s_nil 9 7 3 1 (by simp [lk]) (by simp) ?_
  simp only [st]
  refine s_loop (J := fun i : {j : Nat // j ≤ (L.getD k []).length} => ⟨89, [(1, aInts ts), (2, .ptr 0 0 0), (4, .ptr 1 0 0), (7, .ptr 5 0 0), (8, .v (.int .i64 (k : Int))), (9, .ref 7 0 (restC ts ((L.getD k []).take i.1)).length), (10, .v (.bool (anyK ts (L.getD k []) i.1))), (11, .v (.int .i64 (i.1 : Int)))], (7, ⟨3, 1, (restC ts ((L.getD k []).take i.1)).map fun x => [.v (.int .i64 x)]⟩) :: [(6, ⟨30, 1, (givenK ts L k).map fun xs => [aInts xs]⟩), (0, ⟨24, 2, [[.v (.int .i64 N), aRows L]]⟩), (1, ⟨24, 2, [[.v (.int .i64 0), .v (.slice none 0 0)]]⟩), (5, ⟨24, 2, [[.v (.int .i64 N), .ref 6 0 (givenK ts L k).length]]⟩)], [7, 6, 5, 1, 0]⟩) (μ := fun i => (L.getD k []).length - i.1) ⟨0, Nat.zero_le _⟩ ?_ (fun ⟨j, hj⟩ => ?_)
  ·have hk1 : restC ts [] = [] := rfl
   have hk2 : anyK ts (L.getD k []) 0 = false := rfl
   (refine weak_id rfl ?_ ?_ <;> ((try simp only [List.mem_cons, List.not_mem_nil, or_false, forall_eq_or_imp, forall_eq]); (try simp (disch := omega) [i64w, *])))
  refine amGo PT15_ok (h := ?_)
  (focus ((with_reducible refine sp_cond (b := ?_) ?_ (fun hc => ?_) (fun hc => ?_)); rotate_left; (focus (first | rfl | (simp [lk, AS.ev]; rfl))); all_goals (try simp at hc)))
  ·have hjj := hc
   clear hc
   have hrs := restC_succ (ts := ts) hjj
   have has := anyK_succ (ts := ts) hjj
   obtain ⟨r1, r2, r3, r4, r5⟩ := litOk_range (hlit _ (getD_memI hjj))
   have hrl : (restC ts ((L.getD k []).take j)).length ≤ 128 := by have := restC_len ts ((L.getD k []).take j); rw [List.length_take] at this; omega
   have hcap2 : ((restC ts ((L.getD k []).take j)).length + 1) * 8 ≤ 140737488355328 := by omega
   have hx1 : okI ((L.getD k []).getD j 0) = true := okI_iff.2 (okInts_at hci j)
   have hx2 : okI (-((L.getD k []).getD j 0)) = true := okI_iff.2 ⟨by omega, by omega⟩
   have hw : IntKind.i64.wrap (-((L.getD k []).getD j 0)) = -((L.getD k []).getD j 0) := i64w (by omega) (by omega)
   generalize hx : (L.getD k []).getD j 0 = x at hrs has r1 r2 r3 r4 r5 hx1 hx2 hw
   cases ha : anyK ts (L.getD k []) j <;> cases hb : decide (x ∈ ts) <;> cases hd : decide (-x ∈ ts)
   all_goals
    rw [ha, hb] at has
    first
     | rw [if_neg (of_decide_eq_false hd)] at hrs
     | rw [if_pos (of_decide_eq_true hd)] at hrs
    refine amGo PT15_ok (h := ?_)
    refine k_lp (⟨j + 1, by omega⟩ : {j : Nat // j ≤ (L.getD k []).length}) (by dsimp only; omega) ?_
    first
     | (
      (refine weak_of (fun k => if k = 7 then 18 else k) ⟨rfl, ?_, ?_, ?_⟩ <;> ((try simp only [List.mem_cons, List.not_mem_nil, or_false, forall_eq_or_imp, forall_eq]); (try simp (disch := omega) [lk, AV.ids, idsL, idsLL, AV.ren, renL, renLL, i64w, *])))
      done)
     | (
      (refine weak_id rfl ?_ ?_ <;> ((try simp only [List.mem_cons, List.not_mem_nil, or_false, forall_eq_or_imp, forall_eq]); (try simp (disch := omega) [i64w, *])))
      done)
  ·obtain rfl : j = (L.getD k []).length := by omega
   have hfull : restC ts ((L.getD k []).take (L.getD k []).length) = restC ts (L.getD k []) := by rw [List.take_length]
   have hany : anyK ts (L.getD k []) (L.getD k []).length = !openC ts (L.getD k []) := by unfold anyK openC; rw [List.take_length, Bool.not_not]
   refine s_frz (fun k => k == 7) ?_
   (refine s_eq (τ := ?_) ?_ ?_; rotate_left; (focus ((try simp only [AS.frz, List.map_cons, List.map_nil]); (try simp [frzV, frzO, frzC, List.filter]); rfl)))
   cases ho : openC ts (L.getD k [])
   ·rw [ho] at hany
    rw [if_neg (by rw [ho]; simp)] at hks
    refine amGo PT15_ok (h := ?_)
    refine k_lp (⟨k + 1, by omega⟩ : {k : Nat // k ≤ L.length}) (by dsimp only; omega) ?_
    (refine weak_id rfl ?_ ?_ <;> ((try simp only [List.mem_cons, List.not_mem_nil, or_false, forall_eq_or_imp, forall_eq]); (try simp (disch := omega) [i64w, *])))
   ·rw [ho] at hany
    rw [if_pos ho] at hks
    refine amGo PT15_ok (h := ?_)
    refine k_lp (⟨k + 1, by omega⟩ : {k : Nat // k ≤ L.length}) (by dsimp only; omega) ?_
    (refine weak_of (fun k => if k = 6 then 12 else k) ⟨rfl, ?_, ?_, ?_⟩ <;> ((try simp only [List.mem_cons, List.not_mem_nil, or_false, forall_eq_or_imp, forall_eq]); (try simp (disch := omega) [lk, AV.ids, idsL, idsLL, AV.ren, renL, renLL, i64w, *])))
 ·obtain rfl : k = L.length := by omega
  have hfin : givenK ts L L.length = givenT ts L := by unfold givenK givenT; rw [List.take_length]
  refine amGo PT15_ok (h := ?_)
  (refine amRt Tryz.results100 (h := ?_); try simp [*])
theorem rGiven_p (N : Int) (L : List (List Int)) (ts : List Int) (hN : okI N = true) (h : okRows L = true) (ht : okInts ts = true) : FnPure Tryz.prog 100 [aTh N L, aInts ts] (givenA N L ts) := by
 unfold givenA
 by_cases hz : checkT N L = 0
 ·rw [if_pos hz]
  have hck := checkT_ok hz
  cases hr : termR N ts
  ·rw [if_neg (by simp)]
   unfold aTh
   refine fn_sp TT_ok Tryz.func100 (c := _) rfl (by simp [Tryz.ntmps100]) (fun B hI0 hro => ?_)
   rw [Tryz.ntmps100]
   simp only [enumA]
   refine amGo PT15_ok (h := ?_)
   (refine amRt Tryz.results100 (h := ?_); try simp [*])
  ·rw [if_pos rfl]
   exact rGiven_ok N L ts hN h ht hz hr
 ·rw [if_neg hz]
  have hne : (checkT N L != 0) = true := by simpa using hz
  unfold aTh
  refine fn_sp TT_ok Tryz.func100 (c := _) rfl (by simp [Tryz.ntmps100]) (fun B hI0 hro => ?_)
  rw [Tryz.ntmps100]
  simp only [enumA]
  refine amGo PT15_ok (h := ?_)
  (refine amRt Tryz.results100 (h := ?_); try simp [*])
@[simp] def g_rGiven : List AV → Option (AV × Bool)
 | [.agg [.v (.int .i64 N), a0], a1] => (match toRows a0 with | some L => (match toInts a1 with | some ts => if (okI N && okRows L && okInts ts) = true then some (givenA N L ts, false) else none | none => none) | none => none)
 | _ => none
theorem e_rGiven : EntOk Tryz.prog 100 g_rGiven := ent_pure (by kernel_rfl) fun args r fr h => by
 unfold g_rGiven at h
 split at h
 ·rename_i N a0 a1
  split at h
  ·rename_i L t0
   split at h
   ·rename_i ts t1
    split at h
    ·rename_i hc
     simp only [Bool.and_eq_true] at hc
     obtain ⟨⟨m0, o0⟩, o1⟩ := hc
     cases h
     exact ⟨FnPure.cov (rGiven_p N L ts m0 o0 o1) (.cons (cov_th _ (cov_rows t0)) (.cons (cov_ints t1) .nil)), rfl⟩
    ·cases h
   ·cases h
  ·cases h
 ·cases h

end Go.Proofs.YtllkogdgmmcfgaaGreatDoor
/- Lf22: Contracts of censusref22.Left and Residual; no condition. -/
namespace Go.Proofs.YtllkogdgmmcfgaaGreatDoor
set_option linter.unusedVariables false
set_option linter.unusedSimpArgs false
set_option linter.unusedSectionVars false
open Go.RowKit
open Wlk
attribute [-simp] List.getD_eq_getElem?_getD
def l72 : List (FuncId × (List AV → Option (AV × Bool))) :=
 (100, g_rGiven) :: l71
theorem l72_ok : ∀ p ∈ l72, EntOk Tryz.prog p.1 p.2 := ent_cons e_rGiven (l71_ok)
def PT72 : PTab := tab l72
theorem PT72_ok : PTok Tryz.prog PT72 := tab_ok l72_ok
@[simp] theorem PT72_rGiven : PT72 100 = g_rGiven := rfl
@[simp] theorem PT72_old (f : FuncId) (h : decide (f ≠ 100) = true) : PT72 f = PT71 f := tab_old (of_decide_eq_true h)
set_option maxRecDepth 100000
theorem givenT_kept (L : List (List Int)) (ts cs : List Int) : givenT ts (rowsOf L (keptL L ts cs)) = givenT ts (rowsOf L cs) := by
 unfold givenT rowsOf keptL
 congr 1
 rw [List.filter_map, List.filter_map, List.filter_filter]
 congr 1
 refine List.filter_congr fun i _ => ?_
 exact Bool.and_self _
set_option maxHeartbeats 4000000 in
theorem r2Residual_p (N : Int) (L : List (List Int)) (ts cs : List Int) (hN : okI N = true) (hL : okRows L = true) (ht : okInts ts = true) (hc : okInts cs = true) : FnPure Tryz.prog 62 [aTh N L, aCl ts cs] (resA N L ts cs) := by
 have lt := okInts_len ht
 have lc := okInts_len hc
 have ll := okRows_len hL
 have hm : okI (L.length : Int) = true := okI_iff.2 ⟨by omega, by omega⟩
 have ti1 := toInts_ints ts
 have ti2 := toInts_ints cs
 unfold aTh
 by_cases hz : checkT N L = 0
 ·have n0 := (checkT_ok hz).1
  have n1 := (checkT_ok hz).2.1
  cases hg : goodB N L.length ts cs
  ·have hA : resA N L ts cs = .tup [.agg [.v (.int .i64 0), .v (.slice none 0 0)], .v (.int .i64 1)] := by unfold resA; rw [if_neg (by rw [hg]; simp)]
   unfold aCl
   refine fn_sp TT_ok Tryz.func62 (c := _) rfl (by simp [Tryz.ntmps62]) (fun B hI0 hro => ?_)
   rw [Tryz.ntmps62]
   simp only [enumA]
   refine amGo PT72_ok (h := ?_)
   (refine amRt Tryz.results62 (h := ?_); try simp [*])
  ·have hA : resA N L ts cs = .tup [.agg [.v (.int .i64 N), aRows (rsdL L ts cs)], .v (.int .i64 0)] := by unfold resA; rw [if_pos ⟨hz, hg⟩]; rfl
   have hl4 : cs.length ≤ 4096 := by have := good_len hg (by have := (checkT_ok hz).2.2.1; omega); omega
   have hgm := fun i hi => good_mem hg i hi
   have hck := rowsOf_check hz hl4 hgm
   have h128 := (checkT_ok hz).2.1
   have htm := good_term h128 hg
   have hgA : givenA N (rowsOf L cs) ts = .tup [.agg [.v (.int .i64 N), aRows (givenT ts (rowsOf L cs))], .v (.int .i64 0)] := by unfold givenA; rw [if_pos hck, if_pos htm]; rfl
   have hgc := givenT_check hck ts
   unfold rsdL at hA
   rw [givenT_kept] at hA
   have hnA : rNormA N (givenT ts (rowsOf L cs)) = .tup [.agg [.v (.int .i64 N), aRows (normL (givenT ts (rowsOf L cs)))], .v (.int .i64 0)] := by rw [← normA_rNorm]; unfold normA; rw [if_pos hgc]; rfl
   have hgr := okRows_check hgc
   have hrr := okRows_check hck
   clear hck hgc htm h128
   generalize givenT ts (rowsOf L cs) = Y at hgA hnA hgr hA
   generalize normL Y = Z at hA hnA
   unfold aCl
   refine fn_sp TT_ok Tryz.func62 (c := _) rfl (by simp [Tryz.ntmps62]) (fun B hI0 hro => ?_)
   rw [Tryz.ntmps62]
   simp only [enumA]
   refine amGo PT72_ok (h := ?_)
   refine s_cnil 6 0 1 40 30 1 rfl rfl (by simp) ?_ (by decide)
   (refine s_eq (τ := ?_) ?_ ?_; rotate_left; (focus ((try simp only [AS.frz, List.map_cons, List.map_nil]); (try simp [frzV, frzO, frzC, List.filter]); rfl)))
   refine s_loop (J := fun i : {k : Nat // k ≤ cs.length} => ⟨59, [(2, .ptr 0 0 0), (3, .ptr 1 0 0), (4, .ptr 2 0 0), (6, .ptr 6 0 0), (7, .v (.int .i64 (i.1 : Int)))], [(40, ⟨30, 1, (rowsOf L (cs.take i.1)).map fun xs => [aInts xs]⟩), (0, ⟨24, 2, [[.v (.int .i64 N), aRows L]]⟩), (1, ⟨37, 2, [[aInts ts, aInts cs]]⟩), (2, ⟨24, 2, [[.v (.int .i64 0), .v (.slice none 0 0)]]⟩), (6, ⟨24, 2, [[.v (.int .i64 N), .ref 40 0 i.1]]⟩)], [40, 6, 2, 1, 0]⟩) (μ := fun i => cs.length - i.1) ⟨0, Nat.zero_le _⟩ ?_ (fun ⟨k, hk⟩ => ?_)
   ·have hk0 : rowsOf L [] = [] := rfl
    (refine weak_id rfl ?_ ?_ <;> ((try simp only [List.mem_cons, List.not_mem_nil, or_false, forall_eq_or_imp, forall_eq]); (try simp (disch := omega) [i64w, *])))
   have hkl : (rowsOf L (cs.take k)).length = k := by rw [rowsOf_len, List.length_take]; omega
   have c1 : (k + 1) * 24 ≤ 140737488355328 := by omega
   refine amGo PT72_ok (h := ?_)
   (focus ((with_reducible refine sp_cond (b := ?_) ?_ (fun hc => ?_) (fun hc => ?_)); rotate_left; (focus (first | rfl | (simp [lk, AS.ev]; rfl))); all_goals (try simp at hc)))
   ·have hkk := hc
    clear hc
    have hts := rowsOf_succ L hkk
    have hx := hgm _ (getD_memI hkk)
    obtain ⟨x, hxe⟩ : ∃ x, cs.getD k 0 = x := ⟨_, rfl⟩
    rw [hxe] at hx hts
    have x0 : 0 ≤ x := hx.1
    have x1 : x < L.length := hx.2
    have hmx : max x 0 = x := by omega
    have hx2 : x.toNat < L.length := by omega
    clear hgm
    refine amGo PT72_ok (h := ?_)
    refine k_lp (⟨k + 1, by omega⟩ : {k : Nat // k ≤ cs.length}) (by dsimp only; omega) ?_
    (refine weak_of (fun k => if k = 40 then 53 else k) ⟨rfl, ?_, ?_, ?_⟩ <;> ((try simp only [List.mem_cons, List.not_mem_nil, or_false, forall_eq_or_imp, forall_eq]); (try simp (disch := omega) [lk, AV.ids, idsL, idsLL, AV.ren, renL, renLL, i64w, *])))
   ·obtain rfl : k = cs.length := by omega
    rw [List.take_length] at hkl ⊢
    clear hc c1
    refine amStr (h := ?_)
    refine s_weak ⟨59, [(2, .ptr 0 0 0), (3, .ptr 1 0 0), (4, .ptr 2 0 0), (6, .ptr 6 0 0)], [(40, ⟨30, 1, (rowsOf L cs).map fun xs => [aInts xs]⟩), (0, ⟨24, 2, [[.v (.int .i64 N), aRows L]]⟩), (1, ⟨37, 2, [[aInts ts, aInts cs]]⟩), (2, ⟨24, 2, [[.v (.int .i64 0), .v (.slice none 0 0)]]⟩), (6, ⟨24, 2, [[.v (.int .i64 N), .ref 40 0 (rowsOf L cs).length]]⟩)], [40, 6, 2, 1, 0]⟩ ?_ ?_
    ·(refine weak_id rfl ?_ ?_ <;> ((try simp only [List.mem_cons, List.not_mem_nil, or_false, forall_eq_or_imp, forall_eq]); (try simp (disch := omega) [i64w, *])))
    clear hkl
    generalize rowsOf L cs = R at hgA hrr ⊢
    refine s_frz (fun k => k == 40) ?_
    (refine s_eq (τ := ?_) ?_ ?_; rotate_left; (focus ((try simp only [AS.frz, List.map_cons, List.map_nil]); (try simp [frzV, frzO, frzC, List.filter]); rfl)))
    refine amGo PT72_ok (h := ?_)
    (refine amRt Tryz.results62 (h := ?_); try simp [*])
 ·have hA : resA N L ts cs = .tup [.agg [.v (.int .i64 0), .v (.slice none 0 0)], .v (.int .i64 1)] := by unfold resA; rw [if_neg (fun h => hz h.1)]
  have hne : (checkT N L != 0) = true := by simpa using hz
  unfold aCl
  refine fn_sp TT_ok Tryz.func62 (c := _) rfl (by simp [Tryz.ntmps62]) (fun B hI0 hro => ?_)
  rw [Tryz.ntmps62]
  simp only [enumA]
  refine amGo PT72_ok (h := ?_)
  (refine amRt Tryz.results62 (h := ?_); try simp [*])
@[simp] def g_r2Res : List AV → Option (AV × Bool)
 | [.agg [.v (.int .i64 N), a0], .agg [a1, b1]] => (match toRows a0 with | some L => (match toInts a1 with | some ts => (match toInts b1 with | some cs => if (okI N && okRows L && okInts ts && okInts cs) = true then some (resA N L ts cs, false) else none | none => none) | none => none) | none => none)
 | _ => none
theorem e_r2Res : EntOk Tryz.prog 62 g_r2Res := ent_pure (by kernel_rfl) fun args r fr h => by
 unfold g_r2Res at h
 split at h
 ·rename_i N a0 a1 b1
  split at h
  ·rename_i L t0
   split at h
   ·rename_i ts t1
    split at h
    ·rename_i cs s1
     split at h
     ·rename_i hc
      simp only [Bool.and_eq_true] at hc
      obtain ⟨⟨⟨m0, o0⟩, o1⟩, p1⟩ := hc
      cases h
      exact ⟨FnPure.cov (r2Residual_p N L ts cs m0 o0 o1 p1) (.cons (cov_th _ (cov_rows t0)) (.cons (cov_cl t1 s1) .nil)), rfl⟩
     ·cases h
    ·cases h
   ·cases h
  ·cases h
 ·cases h

end Go.Proofs.YtllkogdgmmcfgaaGreatDoor
