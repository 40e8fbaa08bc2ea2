/- censusref39.reason, term, before; no condition. -/
import Derived.Test.YtecdhmiamlgibaaDoorQtG
import Derived.Test.YtecdhmiamlgibaaDoorWl
import Derived.Test.YtecdhmiamlgibaaDoorSuG
/- Qx39: censusref39.reason, term, before; no condition. -/
namespace Go.Proofs.YtecdhmiamlgibaaDoor
set_option linter.unusedVariables false
set_option linter.unusedSimpArgs false
set_option linter.unusedSectionVars false
open Go.RowKit
open Wlk
attribute [-simp] List.getD_eq_getElem?_getD
set_option maxRecDepth 100000
set_option maxHeartbeats 4000000 in
theorem r39Rsn_p (N : Int) (ns : List Nd) (a s : BitVec 128) (hN : okI N = true) (h : okNs ns = true) (hv : validN N ns = true) (h16 : (listS (matS ns)).length ≤ 16) : FnPure Tryd.prog 50 [aNet N ns, aSet a, aSet s] (.v (.bool (resnB ns a s))) := by
 have hl := okNs_len h
 have hll := listS_len s
 have hok : ∀ v ∈ listS s, okI v = true := listS_okI
 unfold resnB aNet aNds aSet WV
 obtain ⟨L, hL⟩ : ∃ L, listS s = L := ⟨_, rfl⟩
 rw [hL] at hll hok ⊢
 obtain ⟨f, hf⟩ : ∃ f : Int → Bool, (fun v => !suffB ns a (sWithout s v)) = f := ⟨_, rfl⟩
 have hf2 : ∀ v, suffB ns a (sWithout s v) = !f v := fun v => by rw [← hf]; simp
 rw [hf]
 clear hf
 refine fn_sp TT_ok Tryd.func50 (c := _) rfl (by simp [Tryd.ntmps50]) (fun B hI0 hro => ?_)
 rw [Tryd.ntmps50]
 simp only [enumA]
 refine amStr (h := ?_)
 refine amReg PT173_ok (h := ?_)
 refine amStr (h := ?_)
 refine amReg PT173_ok (h := ?_)
 refine amStr (h := ?_)
 refine amReg PT173_ok (h := ?_)
 refine amStr (h := ?_)
 refine s_loop (J := fun i : {k : Nat // k ≤ L.length ∧ Hid ((L.take k).all f = true)} => ⟨30, [(3, .ptr 0 0 0), (4, .ptr 1 0 0), (5, .ptr 2 0 0), (6, .v (.bool false)), (7, aInts L), (8, .v (.int .i64 (i.1 : Int)))], [(0, ⟨24, 2, [[.v (.int .i64 N), .sl 3 (ns.map fun x => [AV.v (.int .i64 x.1), .v (.int .i64 x.2.1), aInts x.2.2])]]⟩), (1, ⟨27, 2, [[.v (.int .u64 ((lo a).toNat : Int)), .v (.int .u64 ((hi a).toNat : Int))]]⟩), (2, ⟨27, 2, [[.v (.int .u64 ((lo s).toNat : Int)), .v (.int .u64 ((hi s).toNat : Int))]]⟩)], [2, 1, 0]⟩) (μ := fun i => L.length - i.1) ⟨0, Nat.zero_le _, Lib.hid rfl⟩ ?_ (fun ⟨k, hk, HK⟩ => ?_)
 ·(refine weak_id rfl ?_ ?_ <;> ((try simp only [List.mem_cons, List.not_mem_nil, or_false, forall_eq_or_imp, forall_eq]); (try simp (disch := omega) [i64w, *])))
 clear hL
 try dsimp only at hk HK
 refine amStr (h := ?_)
 refine amReg PT173_ok (h := ?_)
 refine amStr (h := ?_)
 (focus ((with_reducible refine sp_cond (b := ?_) ?_ (fun hc => ?_) (fun hc => ?_)); rotate_left; (focus (first | rfl | (simp [lk, AS.ev]; rfl))); all_goals (try simp at hc)))
 ·have hkk : k < L.length := hc
  clear hc
  have hki : (k : Int) < (L.length : Int) := by omega
  have hwk : IntKind.i64.wrap ((k : Int) + 1) = (k : Int) + 1 := i64s k (by omega)
  have ho : okI (L.getD k 0) = true := hok _ (gmemZ hkk)
  have HN := Lib.hid (allT_step (f := f) (d := 0) hkk HK.out)
  have HY := Lib.hid (allT_no (f := f) (d := 0) hkk)
  have hfk := hf2 (L.getD k 0)
  obtain ⟨b, hb⟩ : ∃ b, f (L.getD k 0) = b := ⟨_, rfl⟩
  rw [hb] at HN HY hfk
  clear hf2 hb hok
  cases b
  ·have hF := HY.out rfl
   rw [hF]
   refine amStr (h := ?_)
   refine amDrw PT173_ok (h := ?_)
   refine amStr (h := ?_)
   refine amReg PT173_ok (h := ?_)
   refine amStr (h := ?_)
   (refine amRt Tryd.results50 (h := ?_); try simp [*])
  ·refine amStr (h := ?_)
   refine amDrw PT173_ok (h := ?_)
   refine amStr (h := ?_)
   refine amReg PT173_ok (h := ?_)
   refine k_lp (⟨k + 1, hkk, Lib.hid (HN.out rfl)⟩ : {k : Nat // k ≤ L.length ∧ Hid ((L.take k).all f = true)}) (by first | omega | (dsimp only; omega)) ?_
   (refine weak_id rfl ?_ ?_ <;> ((try simp only [List.mem_cons, List.not_mem_nil, or_false, forall_eq_or_imp, forall_eq]); (try simp (disch := omega) [i64w, *])))
 ·obtain rfl : k = L.length := by omega
  clear hc hf2
  have hF : L.all f = true := by have := HK.out; rwa [List.take_length] at this
  rw [hF]
  refine amStr (h := ?_)
  refine amReg PT173_ok (h := ?_)
  refine amStr (h := ?_)
  (refine amRt Tryd.results50 (h := ?_); try simp [*])
def trmK (f : Int → Int) (L : List Int) (k : Nat) : List Int := (L.take k).map f ++ L.drop k
theorem trmK_len (f : Int → Int) (L : List Int) {k : Nat} (hk : k ≤ L.length) : (trmK f L k).length = L.length := by
 unfold trmK; rw [List.length_append, List.length_map, List.length_take, List.length_drop]; omega
theorem trmK_get (f : Int → Int) {L : List Int} {k : Nat} (hk : k < L.length) : (trmK f L k).getD k 0 = L.getD k 0 := by
 have e : ((L.take k).map f).length = k := by rw [List.length_map, List.length_take]; omega
 unfold trmK
 simp only [List.getD, List.getElem?_append_right (Nat.le_of_eq e), e, Nat.sub_self, List.getElem?_drop, Nat.add_zero]
theorem trmK_set (f : Int → Int) {L : List Int} {k : Nat} (hk : k < L.length) : (trmK f L k).set k (f (L.getD k 0)) = trmK f L (k + 1) := by
 have e : ((L.take k).map f).length = k := by rw [List.length_map, List.length_take]; omega
 have e2 : L.getD k 0 = L[k] := by simp [List.getD, hk]
 unfold trmK
 rw [List.set_append, if_neg (by omega), e, Nat.sub_self, List.drop_eq_getElem_cons hk, List.set_cons_zero, e2, List.take_succ_eq_append_getElem hk, List.map_append, List.append_assoc]
 rfl
theorem trmK_same (f : Int → Int) {L : List Int} {k : Nat} (hk : k < L.length) (h : f (L.getD k 0) = L.getD k 0) : trmK f L (k + 1) = trmK f L k := by
 rw [← trmK_set f hk, h, ← trmK_get f hk]
 have hl := trmK_len f L (Nat.le_of_lt hk)
 have : k < (trmK f L k).length := by omega
 simp [List.getD, this]
set_option maxHeartbeats 2000000 in
theorem r39Trm_p (a s : BitVec 128) : FnPure Tryd.prog 52 [aSet a, aSet s] (aInts (termS a s)) := by
 have hob := r3List_obj s
 have hll := listS_len s
 have hrg : ∀ v ∈ listS s, 1 ≤ v ∧ v ≤ 128 := fun v => listS_rngE
 unfold termS
 obtain ⟨L, hL⟩ : ∃ L, listS s = L := ⟨_, rfl⟩
 rw [hL] at hob hll hrg ⊢
 obtain ⟨f, hf⟩ : ∃ f : Int → Int, (fun v => if sHas a v = true then v else -v) = f := ⟨_, rfl⟩
 have hf2 : ∀ v, f v = if sHas a v = true then v else -v := fun v => by rw [← hf]
 rw [hf]
 clear hf hL
 have htl := fun k (hk : k ≤ L.length) => trmK_len f L hk
 have htg := fun k (hk : k < L.length) => trmK_get f hk
 have hts := fun k (hk : k < L.length) => trmK_set f hk
 have htm := fun k (hk : k < L.length) => trmK_same f hk
 have ht0 : trmK f L 0 = L := by simp [trmK]
 have htA : trmK f L L.length = L.map f := by simp [trmK]
 obtain ⟨M, hM⟩ : ∃ M, L.map f = M := ⟨_, rfl⟩
 rw [hM] at htA ⊢
 clear hM
 have HTL := Lib.hid htl
 have HTG := Lib.hid htg
 have HTS := Lib.hid hts
 have HTM := Lib.hid htm
 have HTA := Lib.hid htA
 have HF2 := Lib.hid hf2
 clear htl htg hts htm htA hf2
 unfold aSet WV at hob ⊢
 refine fn_sp TT_ok Tryd.func52 (c := _) rfl (by simp [Tryd.ntmps52]) (fun B hI0 hro => ?_)
 rw [Tryd.ntmps52]
 simp only [enumA]
 refine amStr (h := ?_)
 refine amReg PT173_ok (h := ?_)
 refine amStr (h := ?_)
 refine s_regionL ?_
 ((iterate 1 (((with_reducible refine spl_step TT_ok PT173_ok (id := 0) (σ' := ?_) ?_ ?_); rotate_left; (focus (simp [*]; rfl))))))
 refine spl_obj hob 300 (by simp) rfl rfl (enters_ok (avs := [.agg [.v (.int .u64 ((lo s).toNat : Int)), .v (.int .u64 ((hi s).toNat : Int))]]) (cs := []) rfl (by kernel_rfl) rfl rfl) (by simp [idsL, AV.ids]) (fun c h => by cases h) ?_
 simp only [shO, AV.ren, Nat.zero_add, List.map_cons, List.map_nil, List.cons_append, List.nil_append]
 (refine spl_eq (τ := ?_) ?_ ?_; rotate_left; (focus ((try simp only [AS.frz, List.map_cons, List.map_nil]); (try simp [frzV, frzO, frzC, List.filter]); rfl)))
 ((iterate 1 (((with_reducible refine spl_step TT_ok PT173_ok (id := 0) (σ' := ?_) ?_ ?_); rotate_left; (focus (simp [*]; rfl))))))
 refine spl_nil ?_
 refine amStr (h := ?_)
 refine amReg PT173_ok (h := ?_)
 refine amStr (h := ?_)
 refine s_loop (J := fun i : {k : Nat // k ≤ L.length} => ⟨31, [(2, .ptr 0 0 0), (5, .ref 300 0 L.length), (6, .v (.int .i64 (i.1 : Int)))], [(0, ⟨27, 2, [[.v (.int .u64 ((lo a).toNat : Int)), .v (.int .u64 ((hi a).toNat : Int))]]⟩), (300, ⟨3, 1, (trmK f L i.1).map fun x => [.v (.int .i64 x)]⟩)], [300, 0]⟩) (μ := fun i => L.length - i.1) ⟨0, Nat.zero_le _⟩ ?_ (fun ⟨k, hk⟩ => ?_)
 ·(refine weak_id rfl ?_ ?_ <;> ((try simp only [List.mem_cons, List.not_mem_nil, or_false, forall_eq_or_imp, forall_eq]); (try simp (disch := omega) [i64w, *])))
 clear ht0 hob
 have htl := HTL.out k hk
 obtain ⟨X, hX⟩ : ∃ X, trmK f L k = X := ⟨_, rfl⟩
 rw [hX] at htl ⊢
 have HX := Lib.hid hX
 clear hX
 refine amStr (h := ?_)
 refine amReg PT173_ok (h := ?_)
 refine amStr (h := ?_)
 (focus ((with_reducible refine sp_cond (b := ?_) ?_ (fun hc => ?_) (fun hc => ?_)); rotate_left; (focus (first | rfl | (simp [lk, AS.ev]; rfl))); all_goals (try simp at hc)))
 ·have hkk : k < L.length := hc
  clear hc
  have hki : (k : Int) < (L.length : Int) := by omega
  have hkX : k < X.length := by omega
  have hwk : IntKind.i64.wrap ((k : Int) + 1) = (k : Int) + 1 := i64s k (by omega)
  have hg := HTG.out k hkk
  have hs := HTS.out k hkk
  have hm := HTM.out k hkk
  have hr := hrg _ (gmemZ hkk)
  rw [HF2.out (L.getD k 0)] at hs hm
  rw [HX.out] at hg hs hm
  obtain ⟨v, hv⟩ : ∃ v, L.getD k 0 = v := ⟨_, rfl⟩
  rw [hv] at hg hs hm hr
  clear hv hrg
  have hov : okI v = true := okI_iff.2 ⟨by omega, by omega⟩
  have hwn : IntKind.i64.wrap (-v) = -v := i64w (by omega) (by omega)
  have hgo : (X.map fun x => [AV.v (.int .i64 x)]).getD k [] = [.v (.int .i64 v)] := by rw [← hg]; simp [List.getD, hkX]
  cases h1 : sHas a v
  ·rw [h1, if_neg (by decide)] at hs
   clear hm
   refine amStr (h := ?_)
   refine amDrw PT173_ok (h := ?_)
   refine amStr (h := ?_)
   refine amReg PT173_ok (h := ?_)
   refine amStr (h := ?_)
   refine amReg PT173_ok (h := ?_)
   refine k_lp (⟨k + 1, hkk⟩ : {k : Nat // k ≤ L.length}) (by first | omega | (dsimp only; omega)) ?_
   (refine weak_id rfl ?_ ?_ <;> ((try simp only [List.mem_cons, List.not_mem_nil, or_false, forall_eq_or_imp, forall_eq]); (try simp (disch := omega) [i64w, *])))
   all_goals (rw [← hs, List.map_set])
  ·have hm2 := hm (by rw [h1, if_pos rfl])
   clear hm hs
   refine amStr (h := ?_)
   refine amDrw PT173_ok (h := ?_)
   refine amStr (h := ?_)
   refine amReg PT173_ok (h := ?_)
   refine k_lp (⟨k + 1, hkk⟩ : {k : Nat // k ≤ L.length}) (by first | omega | (dsimp only; omega)) ?_
   (refine weak_id rfl ?_ ?_ <;> ((try simp only [List.mem_cons, List.not_mem_nil, or_false, forall_eq_or_imp, forall_eq]); (try simp (disch := omega) [i64w, *])))
 ·obtain rfl : k = L.length := by omega
  clear hc
  have hA : M = X := HTA.out.symm.trans HX.out
  subst hA
  refine amStr (h := ?_)
  refine s_weak (τ := ⟨31, [(5, .ref 300 0 M.length)], [(300, ⟨3, 1, M.map fun x => [.v (.int .i64 x)]⟩)], [300]⟩) ?_ ?_
  ·(refine weak_id rfl ?_ ?_ <;> ((try simp only [List.mem_cons, List.not_mem_nil, or_false, forall_eq_or_imp, forall_eq]); (try simp (disch := omega) [i64w, *])))
  clear htl
  refine amStr (h := ?_)
  refine amReg PT173_ok (h := ?_)
  refine amStr (h := ?_)
  (refine amRt Tryd.results52 (h := ?_); try simp [*])
def smlB (c : List Int) : Bool := c.all fun x => decide (-1000 ≤ x) && decide (x ≤ 1000)
theorem smlB_at {c : List Int} (h : smlB c = true) (k : Nat) : -1000 ≤ c.getD k 0 ∧ c.getD k 0 ≤ 1000 := by
 unfold smlB at h
 rw [List.all_eq_true] at h
 by_cases hk : k < c.length
 ·have := h _ (gmemZ hk)
  rw [Bool.and_eq_true, decide_eq_true_eq, decide_eq_true_eq] at this
  exact this
 ·rw [show c.getD k 0 = 0 by simp [List.getD, Nat.le_of_not_lt hk]]; omega
theorem lex_drop {a b : List Int} {k : Nat} (ha : k < a.length) (hb : k < b.length) : lexR (a.drop k) (b.drop k) = if absR (a.getD k 0) = absR (b.getD k 0) then lexR (a.drop (k + 1)) (b.drop (k + 1)) else decide (absR (a.getD k 0) < absR (b.getD k 0)) := by
 rw [List.drop_eq_getElem_cons ha, List.drop_eq_getElem_cons hb]
 have e1 : a.getD k 0 = a[k] := by simp [List.getD, ha]
 have e2 : b.getD k 0 = b[k] := by simp [List.getD, hb]
 rw [e1, e2]
 rfl
theorem absR_if (x : Int) : (if x < -x then -x else x) = absR x := by
 unfold absR
 split <;> omega
set_option maxHeartbeats 4000000 in
theorem r39Bef_p (a b : List Int) (ha : okInts a = true) (hb : okInts b = true) (hsa : smlB a = true) (hsb : smlB b = true) : FnPure Tryd.prog 82 [aInts a, aInts b] (.v (.bool (befR a b))) := by
 have hal := okInts_len ha
 unfold befR
 by_cases hl : a.length = b.length
 ·rw [if_pos hl]
  have h0 : lexR a b = lexR (a.drop 0) (b.drop 0) := rfl
  obtain ⟨R, hR⟩ : ∃ R, lexR a b = R := ⟨_, rfl⟩
  rw [hR] at h0 ⊢
  clear hR
  refine fn_sp TT_ok Tryd.func82 (c := _) rfl (by simp [Tryd.ntmps82]) (fun B hI0 hro => ?_)
  rw [Tryd.ntmps82]
  simp only [enumA]
  refine amStr (h := ?_)
  refine amReg PT173_ok (h := ?_)
  refine amStr (h := ?_)
  refine amReg PT173_ok (h := ?_)
  refine amStr (h := ?_)
  refine amReg PT173_ok (h := ?_)
  refine amStr (h := ?_)
  refine s_loop (J := fun i : {k : Nat // k ≤ a.length ∧ Hid (R = lexR (a.drop k) (b.drop k))} => ⟨50, [(0, aInts a), (1, aInts b), (4, .v (.bool false)), (5, .v (.int .i64 (i.1 : Int)))], [], []⟩) (μ := fun i => a.length - i.1) ⟨0, Nat.zero_le _, Lib.hid h0⟩ ?_ (fun ⟨k, hk, HK⟩ => ?_)
  ·(refine weak_id rfl ?_ ?_ <;> ((try simp only [List.mem_cons, List.not_mem_nil, or_false, forall_eq_or_imp, forall_eq]); (try simp (disch := omega) [i64w, *])))
  clear h0
  have HL := Lib.hid hl
  clear hl
  try dsimp only at hk HK
  refine amStr (h := ?_)
  refine amReg PT173_ok (h := ?_)
  refine amStr (h := ?_)
  (focus ((with_reducible refine sp_cond (b := ?_) ?_ (fun hc => ?_) (fun hc => ?_)); rotate_left; (focus (first | rfl | (simp [lk, AS.ev]; rfl))); all_goals (try simp at hc)))
  ·have hkk : k < a.length := by omega
   clear hc
   have hkb : k < b.length := by have := HL.out; omega
   have hki : (k : Int) < (a.length : Int) := by omega
   have hkbi : (k : Int) < (b.length : Int) := by omega
   have hwk : IntKind.i64.wrap ((k : Int) + 1) = (k : Int) + 1 := i64s k (by omega)
   have hd := lex_drop hkk hkb
   have h1 := smlB_at hsa k
   have h2 := smlB_at hsb k
   have hh := HK.out
   rw [hd] at hh
   clear hd
   obtain ⟨x, hx⟩ : ∃ x, a.getD k 0 = x := ⟨_, rfl⟩
   obtain ⟨y, hy⟩ : ∃ y, b.getD k 0 = y := ⟨_, rfl⟩
   rw [hx] at h1 hh
   rw [hy] at h2 hh
   have w1 : IntKind.i64.wrap (-x) = -x := i64w (by omega) (by omega)
   have w2 : IntKind.i64.wrap (-y) = -y := i64w (by omega) (by omega)
   have m1 := absR_if x
   have m2 := absR_if y
   obtain ⟨X, hX⟩ : ∃ X, absR x = X := ⟨_, rfl⟩
   obtain ⟨Y, hY⟩ : ∃ Y, absR y = Y := ⟨_, rfl⟩
   rw [hX] at m1 hh
   rw [hY] at m2 hh
   have HH := Lib.hid hh
   clear hh hX hY
   by_cases e : X = Y
   ·have HN : Hid (R = lexR (a.drop (k + 1)) (b.drop (k + 1))) := Lib.hid (by rw [HH.out, if_pos e])
    subst e
    clear HH
    refine amStr (h := ?_)
    refine amDrw PT173_ok (h := ?_)
    refine amStr (h := ?_)
    refine amReg PT173_ok (h := ?_)
    refine amStr (h := ?_)
    refine amReg PT173_ok (h := ?_)
    refine k_lp (⟨k + 1, hkk, HN⟩ : {k : Nat // k ≤ a.length ∧ Hid (R = lexR (a.drop k) (b.drop k))}) (by first | omega | (dsimp only; omega)) ?_
    (refine weak_id rfl ?_ ?_ <;> ((try simp only [List.mem_cons, List.not_mem_nil, or_false, forall_eq_or_imp, forall_eq]); (try simp (disch := omega) [i64w, *])))
   ·have hF : R = decide (X < Y) := by rw [HH.out, if_neg e]
    have hne : (X != Y) = true := by simpa using e
    clear HH
    subst hF
    refine amStr (h := ?_)
    refine amDrw PT173_ok (h := ?_)
    refine amStr (h := ?_)
    refine amReg PT173_ok (h := ?_)
    refine amStr (h := ?_)
    refine amReg PT173_ok (h := ?_)
    refine amStr (h := ?_)
    (refine amRt Tryd.results82 (h := ?_); try simp [*])
  ·obtain rfl : k = a.length := by omega
   clear hc
   have hF : R = false := by rw [HK.out, List.drop_length]; rfl
   subst hF
   refine amStr (h := ?_)
   refine amReg PT173_ok (h := ?_)
   refine amStr (h := ?_)
   (refine amRt Tryd.results82 (h := ?_); try simp [*])
 ·rw [if_neg hl]
  have hli : ¬ ((a.length : Int) = (b.length : Int)) := by omega
  refine fn_sp TT_ok Tryd.func82 (c := _) rfl (by simp [Tryd.ntmps82]) (fun B hI0 hro => ?_)
  rw [Tryd.ntmps82]
  simp only [enumA]
  refine amGo PT173_ok (h := ?_)
  (refine amRt Tryd.results82 (h := ?_); try simp [*])
@[simp] def g_r39Rsn : List AV → Option (AV × Bool)
 | [.agg [.v (.int .i64 N), a0], a1, a2] => (match toNds a0 with | some ns => (match toSet a1 with | some a => (match toSet a2 with | some s => if (okI N && okNs ns && (validN N ns && decide ((listS (matS ns)).length ≤ 16))) = true then some (.v (.bool (resnB ns a s)), false) else none | none => none) | none => none) | none => none)
 | _ => none
theorem e_r39Rsn : EntOk Tryd.prog 50 g_r39Rsn := ent_pure (by kernel_rfl) fun args r fr h => by
 unfold g_r39Rsn at h
 split at h
 ·rename_i N a0 a1 a2
  split at h
  ·rename_i ns t0
   split at h
   ·rename_i a t1
    split at h
    ·rename_i s t2
     split at h
     ·rename_i hc
      simp only [Bool.and_eq_true] at hc
      obtain ⟨⟨m0, o0⟩, hk⟩ := hc
      cases h
      exact ⟨FnPure.cov (r39Rsn_p N ns a s m0 o0 hk.1 (of_decide_eq_true hk.2)) (.cons (cov_th _ (cov_nds t0)) (.cons (toSet_inv t1 ▸ Cov.refl _) (.cons (toSet_inv t2 ▸ Cov.refl _) .nil))), rfl⟩
     ·cases h
    ·cases h
   ·cases h
  ·cases h
 ·cases h

@[simp] def g_r39Trm : List AV → Option (AV × Bool)
 | [a0, a1] => (match toSet a0 with | some a => (match toSet a1 with | some s => if (true) = true then some (aInts (termS a s), false) else none | none => none) | none => none)
 | _ => none
theorem e_r39Trm : EntOk Tryd.prog 52 g_r39Trm := ent_pure (by kernel_rfl) fun args r fr h => by
 unfold g_r39Trm at h
 split at h
 ·rename_i a0 a1
  split at h
  ·rename_i a t0
   split at h
   ·rename_i s t1
    split at h
    ·rename_i hc
     cases h
     exact ⟨FnPure.cov (r39Trm_p a s) (.cons (toSet_inv t0 ▸ Cov.refl _) (.cons (toSet_inv t1 ▸ Cov.refl _) .nil)), rfl⟩
    ·cases h
   ·cases h
  ·cases h
 ·cases h

@[simp] def g_r39Bef : List AV → Option (AV × Bool)
 | [a0, a1] => (match toInts a0 with | some a => (match toInts a1 with | some b => if (okInts a && okInts b && (smlB a && smlB b)) = true then some (.v (.bool (befR a b)), false) else none | none => none) | none => none)
 | _ => none
theorem e_r39Bef : EntOk Tryd.prog 82 g_r39Bef := ent_pure (by kernel_rfl) fun args r fr h => by
 unfold g_r39Bef at h
 split at h
 ·rename_i a0 a1
  split at h
  ·rename_i a t0
   split at h
   ·rename_i b t1
    split at h
    ·rename_i hc
     simp only [Bool.and_eq_true] at hc
     obtain ⟨⟨o0, o1⟩, hk⟩ := hc
     cases h
     exact ⟨FnPure.cov (r39Bef_p a b o0 o1 hk.1 hk.2) (.cons (cov_ints t0) (.cons (cov_ints t1) .nil)), rfl⟩
    ·cases h
   ·cases h
  ·cases h
 ·cases h

def l174 : List (FuncId × (List AV → Option (AV × Bool))) :=
 (50, g_r39Rsn) :: (52, g_r39Trm) :: (82, g_r39Bef) :: l173
theorem l174_ok : ∀ p ∈ l174, EntOk Tryd.prog p.1 p.2 := ent_cons e_r39Rsn (ent_cons e_r39Trm (ent_cons e_r39Bef (l173_ok)))
def PT174 : PTab := tab l174
theorem PT174_ok : PTok Tryd.prog PT174 := tab_ok l174_ok
@[simp] theorem PT174_r39Rsn : PT174 50 = g_r39Rsn := rfl
@[simp] theorem PT174_r39Trm : PT174 52 = g_r39Trm := rfl
@[simp] theorem PT174_r39Bef : PT174 82 = g_r39Bef := rfl
@[simp] theorem PT174_old (f : FuncId) (h : decide (f ≠ 50 ∧ f ≠ 52 ∧ f ≠ 82) = true) : PT174 f = PT173 f := (fun h => Eq.trans (tab_old h.1) (Eq.trans (tab_old h.2.1) (tab_old h.2.2))) (of_decide_eq_true h)
end Go.Proofs.YtecdhmiamlgibaaDoor
/- Qy39: censusref39.put; no condition. -/
namespace Go.Proofs.YtecdhmiamlgibaaDoor
set_option linter.unusedVariables false
set_option linter.unusedSimpArgs false
set_option linter.unusedSectionVars false
open Go.RowKit
open Wlk
attribute [-simp] List.getD_eq_getElem?_getD
set_option maxRecDepth 100000
def smlR (L : List (List Int)) : Bool := L.all smlB
theorem smlR_at {L : List (List Int)} (h : smlR L = true) (k : Nat) : smlB (L.getD k []) = true := by
 unfold smlR at h
 rw [List.all_eq_true] at h
 by_cases hk : k < L.length
 ·have e : L.getD k [] = L[k] := by simp [List.getD, hk]
  rw [e]; exact h _ (List.getElem_mem hk)
 ·rw [show L.getD k [] = [] by simp [List.getD, Nat.le_of_not_lt hk]]; rfl
theorem put_at {L : List (List Int)} {x : List Int} {k : Nat} (hk : k < L.length) : putR (L.drop k) x = if befR x (L.getD k []) = true then x :: L.getD k [] :: L.drop (k + 1) else L.getD k [] :: putR (L.drop (k + 1)) x := by
 have e : L.getD k [] = L[k] := by simp [List.getD, hk]
 rw [List.drop_eq_getElem_cons hk, e, putR]
theorem drop_at {L : List (List Int)} {k : Nat} (hk : k < L.length) : L.drop k = L.getD k [] :: L.drop (k + 1) := by
 have e : L.getD k [] = L[k] := by simp [List.getD, hk]
 rw [List.drop_eq_getElem_cons hk, e]
theorem capP {n : Nat} (h : n ≤ 200001) : (n + 1) * 24 ≤ 140737488355328 ∧ (n + 1 + 1) * 24 ≤ 140737488355328 := ⟨by omega, by omega⟩
def PutI (L : List (List Int)) (x : List Int) (k : Nat) (O : List (List Int)) (d : Bool) : Prop := putR L x = O ++ (if d = true then L.drop k else putR (L.drop k) x)
theorem putI_done {L : List (List Int)} {x : List Int} {k : Nat} {O : List (List Int)} (hk : k < L.length) (h : PutI L x k O true) : PutI L x (k + 1) (O ++ [L.getD k []]) true := by
 unfold PutI at h ⊢
 rw [if_pos rfl] at h ⊢
 rw [h, drop_at hk]; simp
theorem putI_here {L : List (List Int)} {x : List Int} {k : Nat} {O : List (List Int)} (hk : k < L.length) (h : PutI L x k O false) (hb : befR x (L.getD k []) = true) : PutI L x (k + 1) (O ++ [x] ++ [L.getD k []]) true := by
 unfold PutI at h ⊢
 rw [if_neg (by decide), put_at hk, if_pos hb] at h
 rw [if_pos rfl, h]; simp
theorem putI_next {L : List (List Int)} {x : List Int} {k : Nat} {O : List (List Int)} (hk : k < L.length) (h : PutI L x k O false) (hb : befR x (L.getD k []) = false) : PutI L x (k + 1) (O ++ [L.getD k []]) false := by
 unfold PutI at h ⊢
 rw [if_neg (by decide), put_at hk, hb, if_neg (by decide)] at h
 rw [if_neg (by decide), h]; simp
set_option maxHeartbeats 4000000 in
theorem r39Put_p (L : List (List Int)) (x : List Int) (hL : okRows L = true) (hx : okInts x = true) (hsL : smlR L = true) (hsx : smlB x = true) (hl : L.length ≤ 100000) : FnPure Tryd.prog 51 [aRows L, aInts x] (aRows (putR L x)) := by
 refine fn_sp TT_ok Tryd.func51 (c := _) rfl (by simp [Tryd.ntmps51]) (fun B hI0 hro => ?_)
 rw [Tryd.ntmps51]
 simp only [enumA]
 refine amStr (h := ?_)
 refine amReg PT174_ok (h := ?_)
 refine amStr (h := ?_)
 refine amReg PT174_ok (h := ?_)
 refine amStr (h := ?_)
 refine amReg PT174_ok (h := ?_)
 refine amStr (h := ?_)
 refine amReg PT174_ok (h := ?_)
 refine amStr (h := ?_)
 refine s_nil 5 50 34 1 (by simp [lk]) (by simp) ?_
 simp only [st]
 refine s_loop (J := fun i : {p : Nat × List (List Int) × Bool // p.1 ≤ L.length ∧ Hid (PutI L x p.1 p.2.1 p.2.2) ∧ p.2.1.length ≤ 2 * p.1} => ⟨42, [(0, aRows L), (1, aInts x), (5, .ref 50 0 i.1.2.1.length), (6, .v (.bool i.1.2.2)), (7, .v (.int .i64 (i.1.1 : Int)))], [(50, ⟨34, 1, i.1.2.1.map fun xs => [aInts xs]⟩)], [50]⟩) (μ := fun i => L.length - i.1.1) ⟨(0, [], false), Nat.zero_le _, Lib.hid rfl, Nat.zero_le _⟩ ?_ (fun ⟨⟨k, O, d⟩, hk, HP, hO⟩ => ?_)
 ·(refine weak_id rfl ?_ ?_ <;> ((try simp only [List.mem_cons, List.not_mem_nil, or_false, forall_eq_or_imp, forall_eq]); (try simp (disch := omega) [i64w, *])))
 dsimp only at hk HP hO
 dsimp only
 obtain ⟨c1, c2⟩ := capP (n := O.length) (by omega)
 refine amStr (h := ?_)
 refine amReg PT174_ok (h := ?_)
 refine amStr (h := ?_)
 (focus ((with_reducible refine sp_cond (b := ?_) ?_ (fun hc => ?_) (fun hc => ?_)); rotate_left; (focus (first | rfl | (simp [lk, AS.ev]; rfl))); all_goals (try simp at hc)))
 ·have hkk : k < L.length := hc
  clear hc
  have hki : (k : Int) < (L.length : Int) := by omega
  have hwk : IntKind.i64.wrap ((k : Int) + 1) = (k : Int) + 1 := i64s k (by omega)
  have ho := okRows_at hL k
  have hs := smlR_at hsL k
  cases d
  ·cases hb : befR x (L.getD k [])
   ·have HN := Lib.hid (putI_next hkk HP.out hb)
    refine amStr (h := ?_)
    refine amReg PT174_ok (h := ?_)
    refine amStr (h := ?_)
    refine amReg PT174_ok (h := ?_)
    refine amStr (h := ?_)
    refine amReg PT174_ok (h := ?_)
    refine k_lp (⟨(k + 1, O ++ [L.getD k []], false), hkk, HN, by simp; omega⟩ : {p : Nat × List (List Int) × Bool // p.1 ≤ L.length ∧ Hid (PutI L x p.1 p.2.1 p.2.2) ∧ p.2.1.length ≤ 2 * p.1}) (by first | omega | (dsimp only; omega)) ?_
    (refine weak_of (fun q => if q = 50 then 57 else q) ⟨rfl, ?_, ?_, ?_⟩ <;> ((try simp only [List.mem_cons, List.not_mem_nil, or_false, forall_eq_or_imp, forall_eq]); (try simp (disch := omega) [lk, AV.ids, idsL, idsLL, AV.ren, renL, renLL, i64w, *])))
   ·have HN := Lib.hid (putI_here hkk HP.out hb)
    refine amStr (h := ?_)
    refine amReg PT174_ok (h := ?_)
    refine amStr (h := ?_)
    refine amReg PT174_ok (h := ?_)
    refine amStr (h := ?_)
    refine amReg PT174_ok (h := ?_)
    refine amStr (h := ?_)
    refine amReg PT174_ok (h := ?_)
    refine amStr (h := ?_)
    refine amReg PT174_ok (h := ?_)
    refine k_lp (⟨(k + 1, O ++ [x] ++ [L.getD k []], true), hkk, HN, by simp; omega⟩ : {p : Nat × List (List Int) × Bool // p.1 ≤ L.length ∧ Hid (PutI L x p.1 p.2.1 p.2.2) ∧ p.2.1.length ≤ 2 * p.1}) (by first | omega | (dsimp only; omega)) ?_
    (refine weak_of (fun q => if q = 50 then 61 else q) ⟨rfl, ?_, ?_, ?_⟩ <;> ((try simp only [List.mem_cons, List.not_mem_nil, or_false, forall_eq_or_imp, forall_eq]); (try simp (disch := omega) [lk, AV.ids, idsL, idsLL, AV.ren, renL, renLL, i64w, *])))
  ·have HN := Lib.hid (putI_done hkk HP.out)
   refine amStr (h := ?_)
   refine amReg PT174_ok (h := ?_)
   refine amStr (h := ?_)
   refine amReg PT174_ok (h := ?_)
   refine amStr (h := ?_)
   refine amReg PT174_ok (h := ?_)
   refine k_lp (⟨(k + 1, O ++ [L.getD k []], true), hkk, HN, by simp; omega⟩ : {p : Nat × List (List Int) × Bool // p.1 ≤ L.length ∧ Hid (PutI L x p.1 p.2.1 p.2.2) ∧ p.2.1.length ≤ 2 * p.1}) (by first | omega | (dsimp only; omega)) ?_
   (refine weak_of (fun q => if q = 50 then 57 else q) ⟨rfl, ?_, ?_, ?_⟩ <;> ((try simp only [List.mem_cons, List.not_mem_nil, or_false, forall_eq_or_imp, forall_eq]); (try simp (disch := omega) [lk, AV.ids, idsL, idsLL, AV.ren, renL, renLL, i64w, *])))
 ·obtain rfl : k = L.length := by omega
  clear hc
  have hp := HP.out
  unfold PutI at hp
  rw [List.drop_length] at hp
  cases d
  ·rw [if_neg (by decide), putR] at hp
   have hmm : O.map (fun xs => [aInts xs]) ++ [[aInts x]] = (putR L x).map fun xs => [aInts xs] := by rw [hp]; simp
   have hll : O.length + 1 = (putR L x).length := by rw [hp]; simp
   generalize putR L x = T at hmm hll ⊢
   have c3 : T.length * 24 ≤ 140737488355328 := by rw [← hll]; exact c1
   have c4 : T.length ≤ 5864062014805 := by omega
   clear hp
   refine amGo PT174_ok (h := ?_)
   (refine amRt Tryd.results51 (h := ?_); try simp [*])
  ·rw [if_pos rfl, List.append_nil] at hp
   rw [hp]
   clear hp
   refine amGo PT174_ok (h := ?_)
   (refine amRt Tryd.results51 (h := ?_); try simp [*])
@[simp] def g_r39Put : List AV → Option (AV × Bool)
 | [a0, a1] => (match toRows a0 with | some L => (match toInts a1 with | some x => if (okRows L && okInts x && (smlR L && smlB x && decide (L.length ≤ 100000))) = true then some (aRows (putR L x), false) else none | none => none) | none => none)
 | _ => none
theorem e_r39Put : EntOk Tryd.prog 51 g_r39Put := ent_pure (by kernel_rfl) fun args r fr h => by
 unfold g_r39Put at h
 split at h
 ·rename_i a0 a1
  split at h
  ·rename_i L t0
   split at h
   ·rename_i x t1
    split at h
    ·rename_i hc
     simp only [Bool.and_eq_true] at hc
     obtain ⟨⟨o0, o1⟩, hk⟩ := hc
     cases h
     exact ⟨FnPure.cov (r39Put_p L x o0 o1 hk.1.1 hk.1.2 (of_decide_eq_true hk.2)) (.cons (cov_rows t0) (.cons (cov_ints t1) .nil)), rfl⟩
    ·cases h
   ·cases h
  ·cases h
 ·cases h

def l175 : List (FuncId × (List AV → Option (AV × Bool))) :=
 (51, g_r39Put) :: l174
theorem l175_ok : ∀ p ∈ l175, EntOk Tryd.prog p.1 p.2 := ent_cons e_r39Put (l174_ok)
def PT175 : PTab := tab l175
theorem PT175_ok : PTok Tryd.prog PT175 := tab_ok l175_ok
@[simp] theorem PT175_r39Put : PT175 51 = g_r39Put := rfl
@[simp] theorem PT175_old (f : FuncId) (h : decide (f ≠ 51) = true) : PT175 f = PT174 f := tab_old (of_decide_eq_true h)
end Go.Proofs.YtecdhmiamlgibaaDoor
/- Ua39: censusref39.Reasons; no condition. -/
namespace Go.Proofs.YtecdhmiamlgibaaDoor
set_option linter.unusedVariables false
set_option linter.unusedSimpArgs false
set_option linter.unusedSectionVars false
open Go.RowKit
open Wlk
attribute [-simp] List.getD_eq_getElem?_getD
set_option maxRecDepth 100000
attribute [local simp] aSets
def reK (ns : List Nd) (a : BitVec 128) (X : List (BitVec 128)) : List (List Int) := ((X.filter (resnB ns a)).map (termS a)).foldl putR []
theorem reK_take (ns : List Nd) (a : BitVec 128) {X : List (BitVec 128)} {k : Nat} (hk : k < X.length) : reK ns a (X.take (k + 1)) = if resnB ns a (X.getD k 0#128) = true then putR (reK ns a (X.take k)) (termS a (X.getD k 0#128)) else reK ns a (X.take k) := by
 have e : X.getD k 0#128 = X[k] := by simp [List.getD, hk]
 unfold reK
 rw [List.take_succ_eq_append_getElem hk, List.filter_append, List.map_append, List.foldl_append, e]
 by_cases hr : resnB ns a X[k] = true
 ·rw [if_pos hr, List.filter_cons, if_pos hr]; rfl
 ·rw [if_neg hr, List.filter_cons, if_neg hr]; rfl
theorem termS_sml (a s : BitVec 128) : smlB (termS a s) = true := by
 unfold smlB termS
 rw [List.all_eq_true]
 intro x hx
 obtain ⟨v, hv, rfl⟩ := List.mem_map.1 hx
 have := listS_rngE hv
 rw [Bool.and_eq_true, decide_eq_true_eq, decide_eq_true_eq]
 split <;> omega
theorem termS_len (a s : BitVec 128) : (termS a s).length ≤ 128 := by unfold termS; rw [List.length_map]; exact listS_len s
theorem sml_ok {c : List Int} (h : smlB c = true) (hl : c.length ≤ 128) : okInts c = true := by
 unfold okInts
 rw [Bool.and_eq_true, List.all_eq_true, decide_eq_true_eq]
 refine ⟨fun x hx => ?_, by omega⟩
 unfold smlB at h
 rw [List.all_eq_true] at h
 have := h x hx
 rw [Bool.and_eq_true, decide_eq_true_eq, decide_eq_true_eq] at this
 exact okI_iff.2 ⟨by omega, by omega⟩
theorem termS_ok (a s : BitVec 128) : okInts (termS a s) = true := sml_ok (termS_sml a s) (termS_len a s)
theorem reK_mem {ns : List Nd} {a : BitVec 128} {X : List (BitVec 128)} {c : List Int} (h : c ∈ reK ns a X) : ∃ s, c = termS a s := by
 unfold reK at h
 have hp := (puts_ok ((X.filter (resnB ns a)).map (termS a)) [] List.Pairwise.nil).2
 rw [List.append_nil] at hp
 obtain ⟨s, _, rfl⟩ := List.mem_map.1 (hp.mem_iff.1 h)
 exact ⟨s, rfl⟩
theorem reK_len (ns : List Nd) (a : BitVec 128) (X : List (BitVec 128)) : (reK ns a X).length ≤ X.length := by
 unfold reK
 have hp := (puts_ok ((X.filter (resnB ns a)).map (termS a)) [] List.Pairwise.nil).2
 rw [hp.length_eq, List.append_nil, List.length_map]
 exact List.length_filter_le _ _
theorem reK_ok (ns : List Nd) (a : BitVec 128) {X : List (BitVec 128)} (hX : X.length ≤ 65536) : okRows (reK ns a X) = true ∧ smlR (reK ns a X) = true ∧ (reK ns a X).length ≤ 65536 := by
 have hl := reK_len ns a X
 unfold okRows smlR
 rw [Bool.and_eq_true, List.all_eq_true, List.all_eq_true, decide_eq_true_eq]
 refine ⟨⟨fun c hc => ?_, by omega⟩, fun c hc => ?_, by omega⟩
 ·obtain ⟨s, rfl⟩ := reK_mem hc; exact termS_ok a s
 ·obtain ⟨s, rfl⟩ := reK_mem hc; exact termS_sml a s
def refA (N : Int) (ns : List Nd) (a : BitVec 128) : AV := if chkN N ns a = 0 then .tup [aRows (refR ns a), .v (.int .i64 0)] else .tup [.v (.slice none 0 0), .v (.int .i64 (chkN N ns a))]
theorem chk_zeroR {N : Int} {ns : List Nd} {a : BitVec 128} (h : chkN N ns a = 0) : validN N ns = true ∧ (listS (matS ns)).length ≤ 16 := by
 unfold chkN at h
 split at h
 ·cases h
 ·rename_i hv
  split at h
  ·cases h
  ·rename_i h16
   rw [Bool.not_eq_false, Bool.and_eq_true] at hv
   exact ⟨hv.1, by omega⟩
theorem chk_rng (N : Int) (ns : List Nd) (a : BitVec 128) : 0 ≤ chkN N ns a ∧ chkN N ns a ≤ 2 := by
 unfold chkN
 split
 ·omega
 ·split <;> omega
set_option maxHeartbeats 4000000 in
theorem r39Rea_p (N : Int) (ns : List Nd) (a : BitVec 128) (hN : okI N = true) (h : okNs ns = true) : FnPure Tryd.prog 15 [aNet N ns, aSet a] (refA N ns a) := by
 have hl := okNs_len h
 unfold refA
 by_cases hz : chkN N ns a = 0
 ·rw [if_pos hz]
  obtain ⟨hv, h16⟩ := chk_zeroR hz
  have hxl := subs_len (listS (matS ns))
  have hp : 2 ^ (listS (matS ns)).length ≤ 2 ^ 16 := Nat.pow_le_pow_right (by omega) h16
  have hp2 : (2 : Nat) ^ 16 = 65536 := by decide
  have hR : refR ns a = reK ns a (subsL (listS (matS ns))) := rfl
  rw [hR]
  clear hR
  unfold aNet aNds aSet WV
  obtain ⟨X, hX⟩ : ∃ X, subsL (listS (matS ns)) = X := ⟨_, rfl⟩
  rw [hX] at hxl ⊢
  have hX5 : X.length ≤ 65536 := by omega
  clear hxl hp hp2
  have ht1 := fun s => termS_ok a s
  have ht2 := fun s => termS_sml a s
  refine fn_sp TT_ok Tryd.func15 (c := _) rfl (by simp [Tryd.ntmps15]) (fun B hI0 hro => ?_)
  rw [Tryd.ntmps15]
  simp only [enumA]
  refine amStr (h := ?_)
  refine amReg PT175_ok (h := ?_)
  refine amStr (h := ?_)
  refine amReg PT175_ok (h := ?_)
  refine amStr (h := ?_)
  refine amReg PT175_ok (h := ?_)
  refine amStr (h := ?_)
  refine amReg PT175_ok (h := ?_)
  refine amStr (h := ?_)
  refine amReg PT175_ok (h := ?_)
  refine amStr (h := ?_)
  refine amReg PT175_ok (h := ?_)
  refine amStr (h := ?_)
  refine s_nilv 8 1 (by simp [lk]) ?_
  simp only [st]
  refine s_loop (J := fun i : {k : Nat // k ≤ X.length} => ⟨41, [(2, .ptr 0 0 0), (3, .ptr 1 0 0), (4, .v (.slice none 0 0)), (5, .v (.int .i64 0)), (7, aSets X), (8, aRows (reK ns a (X.take i.1))), (9, .v (.int .i64 (i.1 : Int)))], [(0, ⟨24, 2, [[.v (.int .i64 N), .sl 3 (ns.map fun x => [AV.v (.int .i64 x.1), .v (.int .i64 x.2.1), aInts x.2.2])]]⟩), (1, ⟨27, 2, [[.v (.int .u64 ((lo a).toNat : Int)), .v (.int .u64 ((hi a).toNat : Int))]]⟩)], [1, 0]⟩) (μ := fun i => X.length - i.1) ⟨0, Nat.zero_le _⟩ ?_ (fun ⟨k, hk⟩ => ?_)
  ·have h0 : reK ns a [] = [] := rfl
   have h1 : aRows [] = .sl 1 [] := rfl
   (refine weak_id rfl ?_ ?_ <;> ((try simp only [List.mem_cons, List.not_mem_nil, or_false, forall_eq_or_imp, forall_eq]); (try simp (disch := omega) [i64w, *])))
  clear hX hz
  refine amStr (h := ?_)
  refine amReg PT175_ok (h := ?_)
  refine amStr (h := ?_)
  (focus ((with_reducible refine sp_cond (b := ?_) ?_ (fun hc => ?_) (fun hc => ?_)); rotate_left; (focus (first | rfl | (simp [lk, AS.ev]; rfl))); all_goals (try simp at hc)))
  ·have hkk : k < X.length := hc
   clear hc
   have hki : (k : Int) < (X.length : Int) := by omega
   have hwk : IntKind.i64.wrap ((k : Int) + 1) = (k : Int) + 1 := i64s k (by omega)
   have hs := reK_take ns a hkk
   obtain ⟨r1, r2, r3⟩ := reK_ok ns a (X := X.take k) (by rw [List.length_take]; omega)
   obtain ⟨R, hR⟩ : ∃ R, reK ns a (X.take k) = R := ⟨_, rfl⟩
   rw [hR] at hs r1 r2 r3 ⊢
   have r4 : R.length ≤ 100000 := by omega
   clear hR
   cases hb : resnB ns a (X.getD k 0#128)
   ·rw [hb, if_neg (by decide)] at hs
    refine amStr (h := ?_)
    refine amDrw PT175_ok (h := ?_)
    refine amStr (h := ?_)
    refine amReg PT175_ok (h := ?_)
    refine k_lp (⟨k + 1, hkk⟩ : {k : Nat // k ≤ X.length}) (by first | omega | (dsimp only; omega)) ?_
    (refine weak_id rfl ?_ ?_ <;> ((try simp only [List.mem_cons, List.not_mem_nil, or_false, forall_eq_or_imp, forall_eq]); (try simp (disch := omega) [i64w, *])))
   ·rw [hb, if_pos rfl] at hs
    refine amStr (h := ?_)
    refine amDrw PT175_ok (h := ?_)
    refine amStr (h := ?_)
    refine amDrs PT175_ok (h := ?_)
    refine amStr (h := ?_)
    refine amReg PT175_ok (h := ?_)
    refine k_lp (⟨k + 1, hkk⟩ : {k : Nat // k ≤ X.length}) (by first | omega | (dsimp only; omega)) ?_
    (refine weak_id rfl ?_ ?_ <;> ((try simp only [List.mem_cons, List.not_mem_nil, or_false, forall_eq_or_imp, forall_eq]); (try simp (disch := omega) [i64w, *])))
  ·obtain rfl : k = X.length := by omega
   clear hc
   have e : X.take X.length = X := List.take_length
   rw [e]
   refine amGo PT175_ok (h := ?_)
   (refine amRt Tryd.results15 (h := ?_); try simp [*])
 ·rw [if_neg hz]
  obtain ⟨e1, e2⟩ := chk_rng N ns a
  unfold aNet aNds aSet WV
  obtain ⟨e, he⟩ : ∃ e, chkN N ns a = e := ⟨_, rfl⟩
  rw [he] at hz e1 e2 ⊢
  have hzb : (e != 0) = true := by simpa using hz
  refine fn_sp TT_ok Tryd.func15 (c := _) rfl (by simp [Tryd.ntmps15]) (fun B hI0 hro => ?_)
  rw [Tryd.ntmps15]
  simp only [enumA]
  refine amGo PT175_ok (h := ?_)
  (refine amRt Tryd.results15 (h := ?_); try simp [*])
@[simp] def g_r39Rea : List AV → Option (AV × Bool)
 | [.agg [.v (.int .i64 N), a0], a1] => (match toNds a0 with | some ns => (match toSet a1 with | some a => if (okI N && okNs ns) = true then some (refA N ns a, false) else none | none => none) | none => none)
 | _ => none
theorem e_r39Rea : EntOk Tryd.prog 15 g_r39Rea := ent_pure (by kernel_rfl) fun args r fr h => by
 unfold g_r39Rea at h
 split at h
 ·rename_i N a0 a1
  split at h
  ·rename_i ns t0
   split at h
   ·rename_i a t1
    split at h
    ·rename_i hc
     simp only [Bool.and_eq_true] at hc
     obtain ⟨m0, o0⟩ := hc
     cases h
     exact ⟨FnPure.cov (r39Rea_p N ns a m0 o0) (.cons (cov_th _ (cov_nds t0)) (.cons (toSet_inv t1 ▸ Cov.refl _) .nil)), rfl⟩
    ·cases h
   ·cases h
  ·cases h
 ·cases h

def l176 : List (FuncId × (List AV → Option (AV × Bool))) :=
 (15, g_r39Rea) :: l175
theorem l176_ok : ∀ p ∈ l176, EntOk Tryd.prog p.1 p.2 := ent_cons e_r39Rea (l175_ok)
def PT176 : PTab := tab l176
theorem PT176_ok : PTok Tryd.prog PT176 := tab_ok l176_ok
@[simp] theorem PT176_r39Rea : PT176 15 = g_r39Rea := rfl
@[simp] theorem PT176_old (f : FuncId) (h : decide (f ≠ 15) = true) : PT176 f = PT175 f := tab_old (of_decide_eq_true h)
end Go.Proofs.YtecdhmiamlgibaaDoor
/- Ub39: censusref39.Necessary, Same; no condition. -/
namespace Go.Proofs.YtecdhmiamlgibaaDoor
set_option linter.unusedVariables false
set_option linter.unusedSimpArgs false
set_option linter.unusedSectionVars false
open Go.RowKit
open Wlk
attribute [-simp] List.getD_eq_getElem?_getD
set_option maxRecDepth 100000
def cntX (x : Int) (r : List Int) : Nat := r.countP fun y => decide (y = x)
def cntK (x : Int) (R : List (List Int)) : Nat := (R.map (cntX x)).sum
theorem cntX_take (x : Int) {r : List Int} {m : Nat} (hm : m < r.length) : cntX x (r.take (m + 1)) = cntX x (r.take m) + if r.getD m 0 = x then 1 else 0 := by
 have e : r.getD m 0 = r[m] := by simp [List.getD, hm]
 unfold cntX
 rw [List.take_succ_eq_append_getElem hm, List.countP_append, e]
 congr 1
 by_cases h : r[m] = x <;> simp [h]
theorem cntX_le (x : Int) (r : List Int) : cntX x r ≤ r.length := List.countP_le_length
theorem cntK_take (x : Int) {R : List (List Int)} {k : Nat} (hk : k < R.length) : cntK x (R.take (k + 1)) = cntK x (R.take k) + cntX x (R.getD k []) := by
 have e : R.getD k [] = R[k] := by simp [List.getD, hk]
 unfold cntK
 rw [List.take_succ_eq_append_getElem hk, List.map_append, List.sum_append, e]
 simp
theorem cntK_le (x : Int) : ∀ {R : List (List Int)}, (∀ r ∈ R, r.length ≤ 128) → cntK x R ≤ 128 * R.length
 | [], _ => by simp [cntK]
 | r :: R, h => by
  have h1 := cntK_le x fun r hr => h r (List.mem_cons_of_mem _ hr)
  have h2 := cntX_le x r
  have h3 := h r List.mem_cons_self
  have e : cntK x (r :: R) = cntX x r + cntK x R := by unfold cntK; rw [List.map_cons, List.sum_cons]
  rw [e, List.length_cons]; omega
theorem allIn_cnt (R : List (List Int)) (x : Int) : allIn R x = decide (cntK x R = R.length) := rfl
def refNA (N : Int) (ns : List Nd) (a : BitVec 128) : AV := if chkN N ns a = 0 then .tup [aInts (refN ns a), .v (.int .i64 0)] else .tup [.v (.slice none 0 0), .v (.int .i64 (chkN N ns a))]
theorem refR_ok {ns : List Nd} (a : BitVec 128) (h16 : (listS (matS ns)).length ≤ 16) : okRows (refR ns a) = true ∧ (refR ns a).length ≤ 65536 ∧ ∀ r ∈ refR ns a, r.length ≤ 128 := by
 have hxl := subs_len (listS (matS ns))
 have hp : 2 ^ (listS (matS ns)).length ≤ 2 ^ 16 := Nat.pow_le_pow_right (by omega) h16
 have hp2 : (2 : Nat) ^ 16 = 65536 := by decide
 obtain ⟨r1, _, r3⟩ := reK_ok ns a (X := subsL (listS (matS ns))) (by omega)
 refine ⟨r1, r3, fun r hr => ?_⟩
 obtain ⟨s, rfl⟩ := reK_mem (X := subsL (listS (matS ns))) hr
 exact termS_len a s
theorem filt_take {α : Type} (f : α → Bool) {l : List α} {k : Nat} {d : α} (hk : k < l.length) : (l.take (k + 1)).filter f = if f (l.getD k d) = true then (l.take k).filter f ++ [l.getD k d] else (l.take k).filter f := by
 have e : l.getD k d = l[k] := by simp [List.getD, hk]
 rw [List.take_succ_eq_append_getElem hk, List.filter_append, e, List.filter_cons]
 split <;> simp
set_option maxHeartbeats 8000000 in
theorem r39Nec_p (N : Int) (ns : List Nd) (a : BitVec 128) (hN : okI N = true) (h : okNs ns = true) : FnPure Tryd.prog 17 [aNet N ns, aSet a] (refNA N ns a) := by
 have hl := okNs_len h
 unfold refNA
 by_cases hz : chkN N ns a = 0
 ·rw [if_pos hz]
  obtain ⟨hv, h16⟩ := chk_zeroR hz
  have hra : refA N ns a = .tup [aRows (refR ns a), .v (.int .i64 0)] := by unfold refA; rw [if_pos hz]
  obtain ⟨r1, r2, r3⟩ := refR_ok a h16
  have hA1 := termS_ok a (matS ns)
  have hA2 := termS_len a (matS ns)
  unfold refN
  obtain ⟨R, hR⟩ : ∃ R, refR ns a = R := ⟨_, rfl⟩
  rw [hR] at hra r1 r2 r3 ⊢
  obtain ⟨A, hA⟩ : ∃ A, termS a (matS ns) = A := ⟨_, rfl⟩
  rw [hA] at hA1 hA2 ⊢
  clear hR hz
  have R3 := Lib.hid r3
  clear r3
  unfold aNet aNds aSet WV
  refine fn_sp TT_ok Tryd.func17 (c := _) rfl (by simp [Tryd.ntmps17]) (fun B hI0 hro => ?_)
  rw [Tryd.ntmps17]
  simp only [enumA]
  refine amStr (h := ?_)
  refine amReg PT176_ok (h := ?_)
  refine amStr (h := ?_)
  refine amReg PT176_ok (h := ?_)
  refine amStr (h := ?_)
  refine amReg PT176_ok (h := ?_)
  refine amStr (h := ?_)
  refine amReg PT176_ok (h := ?_)
  refine amStr (h := ?_)
  refine amDrw PT176_ok (h := ?_)
  refine amStr (h := ?_)
  refine amReg PT176_ok (h := ?_)
  refine amStr (h := ?_)
  refine s_nil 8 50 3 1 (by simp [lk]) (by simp) ?_
  simp only [st]
  refine s_loop (J := fun i : {k : Nat // k ≤ A.length} => ⟨74, [(4, .v (.slice none 0 0)), (5, .v (.int .i64 0)), (6, aRows R), (8, .ref 50 0 ((A.take i.1).filter (allIn R)).length), (9, aInts A), (10, .v (.int .i64 (i.1 : Int)))], [(50, ⟨3, 1, ((A.take i.1).filter (allIn R)).map fun x => [.v (.int .i64 x)]⟩)], [50]⟩) (μ := fun i => A.length - i.1) ⟨0, Nat.zero_le _⟩ ?_ (fun ⟨i, hie⟩ => ?_)
  ·(refine weak_id rfl ?_ ?_ <;> ((try simp only [List.mem_cons, List.not_mem_nil, or_false, forall_eq_or_imp, forall_eq]); (try simp (disch := omega) [i64w, *])))
  clear hA
  refine amStr (h := ?_)
  refine amReg PT176_ok (h := ?_)
  refine amStr (h := ?_)
  (focus ((with_reducible refine sp_cond (b := ?_) ?_ (fun hc => ?_) (fun hc => ?_)); rotate_left; (focus (first | rfl | (simp [lk, AS.ev]; rfl))); all_goals (try simp at hc)))
  ·have hii : i < A.length := hc
   clear hc
   have hit : (i : Int) < (A.length : Int) := by omega
   have hwi : IntKind.i64.wrap ((i : Int) + 1) = (i : Int) + 1 := i64s i (by omega)
   have hft := filt_take (allIn R) (d := 0) hii
   have hfl : ((A.take i).filter (allIn R)).length ≤ 128 := Nat.le_trans (List.length_filter_le _ _) (by rw [List.length_take]; omega)
   obtain ⟨F, hF⟩ : ∃ F, (A.take i).filter (allIn R) = F := ⟨_, rfl⟩
   rw [hF] at hft hfl ⊢
   clear hF
   have hin := allIn_cnt R (A.getD i 0)
   obtain ⟨x, hx⟩ : ∃ x, A.getD i 0 = x := ⟨_, rfl⟩
   rw [hx] at hft hin
   have HFT := Lib.hid hft
   have HIN := Lib.hid hin
   clear hft hin
   have hck := cntK_le x R3.out
   refine amStr (h := ?_)
   refine amReg PT176_ok (h := ?_)
   refine amStr (h := ?_)
   refine amReg PT176_ok (h := ?_)
   refine amStr (h := ?_)
   refine s_loop (J := fun k : {k : Nat // k ≤ R.length} => ⟨74, [(4, .v (.slice none 0 0)), (5, .v (.int .i64 0)), (6, aRows R), (8, .ref 50 0 F.length), (9, aInts A), (10, .v (.int .i64 (i : Int))), (11, .v (.int .i64 (cntK x (R.take k.1) : Int))), (12, .v (.int .i64 (k.1 : Int)))], [(50, ⟨3, 1, F.map fun x => [.v (.int .i64 x)]⟩)], [50]⟩) (μ := fun k => R.length - k.1) ⟨0, Nat.zero_le _⟩ ?_ (fun ⟨k, hk⟩ => ?_)
   ·have h0 : cntK x [] = 0 := rfl
    (refine weak_id rfl ?_ ?_ <;> ((try simp only [List.mem_cons, List.not_mem_nil, or_false, forall_eq_or_imp, forall_eq]); (try simp (disch := omega) [i64w, *])))
   have hct := cntK_le x (R := R.take k) fun r hr => R3.out r (List.take_subset _ _ hr)
   have hcl : (R.take k).length ≤ 65536 := by rw [List.length_take]; omega
   refine amStr (h := ?_)
   refine amReg PT176_ok (h := ?_)
   refine amStr (h := ?_)
   (focus ((with_reducible refine sp_cond (b := ?_) ?_ (fun hc => ?_) (fun hc => ?_)); rotate_left; (focus (first | rfl | (simp [lk, AS.ev]; rfl))); all_goals (try simp at hc)))
   ·have hkk : k < R.length := hc
    clear hc
    have hkt : (k : Int) < (R.length : Int) := by omega
    have hwk : IntKind.i64.wrap ((k : Int) + 1) = (k : Int) + 1 := i64s k (by omega)
    have hst := cntK_take x hkk
    have hro := okRows_at r1 k
    have hrl : (R.getD k []).length ≤ 128 := by
     have e : R.getD k [] = R[k] := by simp [List.getD, hkk]
     rw [e]; exact R3.out _ (List.getElem_mem hkk)
    obtain ⟨r, hr⟩ : ∃ r, R.getD k [] = r := ⟨_, rfl⟩
    rw [hr] at hst hro hrl
    obtain ⟨c, hcc⟩ : ∃ c, cntK x (R.take k) = c := ⟨_, rfl⟩
    rw [hcc] at hst hct ⊢
    have hc5 : c ≤ 8388608 := by omega
    have HST := Lib.hid hst
    clear hst hcc hct hcl
    refine amStr (h := ?_)
    refine amReg PT176_ok (h := ?_)
    refine amStr (h := ?_)
    refine s_loop (J := fun m : {m : Nat // m ≤ r.length} => ⟨74, [(4, .v (.slice none 0 0)), (5, .v (.int .i64 0)), (6, aRows R), (8, .ref 50 0 F.length), (9, aInts A), (10, .v (.int .i64 (i : Int))), (11, .v (.int .i64 ((c + cntX x (r.take m.1) : Nat) : Int))), (12, .v (.int .i64 (k : Int))), (13, .v (.int .i64 (m.1 : Int)))], [(50, ⟨3, 1, F.map fun x => [.v (.int .i64 x)]⟩)], [50]⟩) (μ := fun m => r.length - m.1) ⟨0, Nat.zero_le _⟩ ?_ (fun ⟨m, hm⟩ => ?_)
    ·have h0 : cntX x [] = 0 := rfl
     (refine weak_id rfl ?_ ?_ <;> ((try simp only [List.mem_cons, List.not_mem_nil, or_false, forall_eq_or_imp, forall_eq]); (try simp (disch := omega) [i64w, *])))
    refine amStr (h := ?_)
    refine amReg PT176_ok (h := ?_)
    refine amStr (h := ?_)
    (focus ((with_reducible refine sp_cond (b := ?_) ?_ (fun hc => ?_) (fun hc => ?_)); rotate_left; (focus (first | rfl | (simp [lk, AS.ev]; rfl))); all_goals (try simp at hc)))
    ·have hmm : m < r.length := hc
     clear hc
     have hmt : (m : Int) < (r.length : Int) := by omega
     have hwm : IntKind.i64.wrap ((m : Int) + 1) = (m : Int) + 1 := i64s m (by omega)
     have hxt := cntX_take x hmm
     have hxl := cntX_le x (r.take m)
     have hxl2 : (r.take m).length ≤ 128 := by rw [List.length_take]; omega
     obtain ⟨d, hd⟩ : ∃ d, c + cntX x (r.take m) = d := ⟨_, rfl⟩
     have hxt2 : c + cntX x (r.take (m + 1)) = d + if r.getD m 0 = x then 1 else 0 := by omega
     have hdI : (c : Int) + (cntX x (r.take m) : Int) = (d : Int) := by omega
     have hd5 : d ≤ 8400000 := by omega
     have hwd : IntKind.i64.wrap ((d : Int) + 1) = (d : Int) + 1 := i64s d (by omega)
     clear hxt hxl hxl2 hd
     by_cases hq : r.getD m 0 = x
     ·rw [if_pos hq] at hxt2
      have hxI : (c : Int) + (cntX x (r.take (m + 1)) : Int) = (d : Int) + 1 := by omega
      clear hxt2
      have hqb : (r.getD m 0 == x) = true := by simpa using hq
      refine amStr (h := ?_)
      refine amDrw PT176_ok (h := ?_)
      refine amStr (h := ?_)
      refine amReg PT176_ok (h := ?_)
      refine amStr (h := ?_)
      refine amReg PT176_ok (h := ?_)
      refine k_lp (⟨m + 1, hmm⟩ : {m : Nat // m ≤ r.length}) (by first | omega | (dsimp only; omega)) ?_
      (refine weak_id rfl ?_ ?_ <;> ((try simp only [List.mem_cons, List.not_mem_nil, or_false, forall_eq_or_imp, forall_eq]); (try simp (disch := omega) [i64w, *])))
     ·rw [if_neg hq] at hxt2
      have hxI : (c : Int) + (cntX x (r.take (m + 1)) : Int) = (d : Int) := by omega
      clear hxt2
      have hqb : (r.getD m 0 == x) = false := by simpa using hq
      refine amStr (h := ?_)
      refine amDrw PT176_ok (h := ?_)
      refine amStr (h := ?_)
      refine amReg PT176_ok (h := ?_)
      refine k_lp (⟨m + 1, hmm⟩ : {m : Nat // m ≤ r.length}) (by first | omega | (dsimp only; omega)) ?_
      (refine weak_id rfl ?_ ?_ <;> ((try simp only [List.mem_cons, List.not_mem_nil, or_false, forall_eq_or_imp, forall_eq]); (try simp (disch := omega) [i64w, *])))
    ·obtain rfl : m = r.length := by omega
     clear hc
     have hst := HST.out
     have e : r.take r.length = r := List.take_length
     have hstI : (c : Int) + (cntX x r : Int) = (cntK x (R.take (k + 1)) : Int) := by omega
     clear hst
     rw [e]
     refine amStr (h := ?_)
     refine amReg PT176_ok (h := ?_)
     refine k_lp (⟨k + 1, hkk⟩ : {k : Nat // k ≤ R.length}) (by first | omega | (dsimp only; omega)) ?_
     (refine weak_id rfl ?_ ?_ <;> ((try simp only [List.mem_cons, List.not_mem_nil, or_false, forall_eq_or_imp, forall_eq]); (try simp (disch := omega) [i64w, *])))
   ·obtain rfl : k = R.length := by omega
    clear hc hct hcl
    have e : R.take R.length = R := List.take_length
    rw [e]
    have hin := HIN.out
    have hft := HFT.out
    rw [hin] at hft
    clear HIN HFT hin
    obtain ⟨c, hcc⟩ : ∃ c, cntK x R = c := ⟨_, rfl⟩
    rw [hcc] at hft hck ⊢
    have hcap : (F.length + 1) * 8 ≤ 140737488355328 := by omega
    by_cases hq : c = R.length
    ·rw [decide_eq_true hq, if_pos rfl] at hft
     have hqb : ((c : Int) == (R.length : Int)) = true := by simp [hq]
     clear hcc
     refine amStr (h := ?_)
     refine amReg PT176_ok (h := ?_)
     refine amStr (h := ?_)
     refine amReg PT176_ok (h := ?_)
     refine amStr (h := ?_)
     refine amReg PT176_ok (h := ?_)
     refine k_lp (⟨i + 1, hii⟩ : {k : Nat // k ≤ A.length}) (by first | omega | (dsimp only; omega)) ?_
     (refine weak_of (fun q => if q = 50 then 57 else q) ⟨rfl, ?_, ?_, ?_⟩ <;> ((try simp only [List.mem_cons, List.not_mem_nil, or_false, forall_eq_or_imp, forall_eq]); (try simp (disch := omega) [lk, AV.ids, idsL, idsLL, AV.ren, renL, renLL, i64w, *])))
    ·rw [decide_eq_false hq, if_neg (by decide)] at hft
     have hqb : ((c : Int) == (R.length : Int)) = false := by simp; omega
     clear hcc
     refine amStr (h := ?_)
     refine amReg PT176_ok (h := ?_)
     refine amStr (h := ?_)
     refine amReg PT176_ok (h := ?_)
     refine k_lp (⟨i + 1, hii⟩ : {k : Nat // k ≤ A.length}) (by first | omega | (dsimp only; omega)) ?_
     (refine weak_id rfl ?_ ?_ <;> ((try simp only [List.mem_cons, List.not_mem_nil, or_false, forall_eq_or_imp, forall_eq]); (try simp (disch := omega) [i64w, *])))
  ·obtain rfl : i = A.length := by omega
   clear hc
   have e : A.take A.length = A := List.take_length
   rw [e]
   refine amGo PT176_ok (h := ?_)
   (refine amRt Tryd.results17 (h := ?_); try simp [*])
 ·rw [if_neg hz]
  have hra : refA N ns a = .tup [.v (.slice none 0 0), .v (.int .i64 (chkN N ns a))] := by unfold refA; rw [if_neg hz]
  obtain ⟨e1, e2⟩ := chk_rng N ns a
  unfold aNet aNds aSet WV
  obtain ⟨e, he⟩ : ∃ e, chkN N ns a = e := ⟨_, rfl⟩
  rw [he] at hz e1 e2 hra ⊢
  have hzb : (e != 0) = true := by simpa using hz
  refine fn_sp TT_ok Tryd.func17 (c := _) rfl (by simp [Tryd.ntmps17]) (fun B hI0 hro => ?_)
  rw [Tryd.ntmps17]
  simp only [enumA]
  refine amGo PT176_ok (h := ?_)
  (refine amRt Tryd.results17 (h := ?_); try simp [*])
theorem take_ext {α : Type} {A B : List α} {k : Nat} {d : α} (hl : A.length = B.length) (hk : k < A.length) (h : A.take k = B.take k) (he : A.getD k d = B.getD k d) : A.take (k + 1) = B.take (k + 1) := by
 have hk2 : k < B.length := by omega
 have e1 : A.getD k d = A[k] := by simp [List.getD, hk]
 have e2 : B.getD k d = B[k] := by simp [List.getD, hk2]
 rw [List.take_succ_eq_append_getElem hk, List.take_succ_eq_append_getElem hk2, h, ← e1, ← e2, he]
theorem r39Sam_p (X Y : List (List Int)) (hA : okRows X = true) (hB : okRows Y = true) : FnPure Tryd.prog 18 [aRows X, aRows Y] (.v (.bool (decide (X = Y)))) := by
 have hl1 := okRows_len hA
 by_cases hl : X.length = Y.length
 ·refine fn_sp TT_ok Tryd.func18 (c := _) rfl (by simp [Tryd.ntmps18]) (fun B hI0 hro => ?_)
  rw [Tryd.ntmps18]
  simp only [enumA]
  refine amStr (h := ?_)
  refine amReg PT176_ok (h := ?_)
  refine amStr (h := ?_)
  refine amReg PT176_ok (h := ?_)
  refine amStr (h := ?_)
  refine amReg PT176_ok (h := ?_)
  refine amStr (h := ?_)
  refine s_loop (J := fun i : {k : Nat // k ≤ X.length ∧ Hid (X.take k = Y.take k)} => ⟨27, [(0, aRows X), (1, aRows Y), (4, .v (.bool false)), (5, .v (.int .i64 (i.1 : Int)))], [], []⟩) (μ := fun i => X.length - i.1) ⟨0, Nat.zero_le _, Lib.hid rfl⟩ ?_ (fun ⟨k, hk, HK⟩ => ?_)
  ·(refine weak_id rfl ?_ ?_ <;> ((try simp only [List.mem_cons, List.not_mem_nil, or_false, forall_eq_or_imp, forall_eq]); (try simp (disch := omega) [i64w, *])))
  try dsimp only at hk HK
  refine amStr (h := ?_)
  refine amReg PT176_ok (h := ?_)
  refine amStr (h := ?_)
  (focus ((with_reducible refine sp_cond (b := ?_) ?_ (fun hc => ?_) (fun hc => ?_)); rotate_left; (focus (first | rfl | (simp [lk, AS.ev]; rfl))); all_goals (try simp at hc)))
  ·have hkk : k < X.length := by omega
   clear hc
   have hkb : k < Y.length := by omega
   have hki : (k : Int) < (X.length : Int) := by omega
   have hkbi : (k : Int) < (Y.length : Int) := by omega
   have hwk : IntKind.i64.wrap ((k : Int) + 1) = (k : Int) + 1 := i64s k (by omega)
   have o1 := okRows_at hA k
   have o2 := okRows_at hB k
   have HN := Lib.hid (take_ext (d := []) hl hkk HK.out)
   by_cases he : X.getD k [] = Y.getD k []
   ·refine amStr (h := ?_)
    refine amDrw PT176_ok (h := ?_)
    refine amStr (h := ?_)
    refine amReg PT176_ok (h := ?_)
    refine k_lp (⟨k + 1, hkk, Lib.hid (HN.out he)⟩ : {k : Nat // k ≤ X.length ∧ Hid (X.take k = Y.take k)}) (by first | omega | (dsimp only; omega)) ?_
    (refine weak_id rfl ?_ ?_ <;> ((try simp only [List.mem_cons, List.not_mem_nil, or_false, forall_eq_or_imp, forall_eq]); (try simp (disch := omega) [i64w, *])))
   ·have hF : ¬ X = Y := fun e => he (by rw [e])
    refine amStr (h := ?_)
    refine amDrw PT176_ok (h := ?_)
    refine amStr (h := ?_)
    refine amReg PT176_ok (h := ?_)
    refine amStr (h := ?_)
    (refine amRt Tryd.results18 (h := ?_); try simp [*])
  ·obtain rfl : k = X.length := by omega
   clear hc
   have hF : X = Y := by
    have := HK.out
    rw [List.take_length, hl, List.take_length] at this
    exact this
   rw [decide_eq_true hF]
   refine amStr (h := ?_)
   refine amReg PT176_ok (h := ?_)
   refine amStr (h := ?_)
   (refine amRt Tryd.results18 (h := ?_); try simp [*])
 ·have hF : ¬ X = Y := fun e => hl (by rw [e])
  have hli : ¬ ((X.length : Int) = (Y.length : Int)) := by omega
  rw [decide_eq_false hF]
  refine fn_sp TT_ok Tryd.func18 (c := _) rfl (by simp [Tryd.ntmps18]) (fun B hI0 hro => ?_)
  rw [Tryd.ntmps18]
  simp only [enumA]
  refine amGo PT176_ok (h := ?_)
  (refine amRt Tryd.results18 (h := ?_); try simp [*])
@[simp] def g_r39Nec : List AV → Option (AV × Bool)
 | [.agg [.v (.int .i64 N), a0], a1] => (match toNds a0 with | some ns => (match toSet a1 with | some a => if (okI N && okNs ns) = true then some (refNA N ns a, false) else none | none => none) | none => none)
 | _ => none
theorem e_r39Nec : EntOk Tryd.prog 17 g_r39Nec := ent_pure (by kernel_rfl) fun args r fr h => by
 unfold g_r39Nec at h
 split at h
 ·rename_i N a0 a1
  split at h
  ·rename_i ns t0
   split at h
   ·rename_i a t1
    split at h
    ·rename_i hc
     simp only [Bool.and_eq_true] at hc
     obtain ⟨m0, o0⟩ := hc
     cases h
     exact ⟨FnPure.cov (r39Nec_p N ns a m0 o0) (.cons (cov_th _ (cov_nds t0)) (.cons (toSet_inv t1 ▸ Cov.refl _) .nil)), rfl⟩
    ·cases h
   ·cases h
  ·cases h
 ·cases h

@[simp] def g_r39Sam : List AV → Option (AV × Bool)
 | [a0, a1] => (match toRows a0 with | some A => (match toRows a1 with | some B => if (okRows A && okRows B) = true then some (.v (.bool (decide (A = B))), false) else none | none => none) | none => none)
 | _ => none
theorem e_r39Sam : EntOk Tryd.prog 18 g_r39Sam := ent_pure (by kernel_rfl) fun args r fr h => by
 unfold g_r39Sam at h
 split at h
 ·rename_i a0 a1
  split at h
  ·rename_i A t0
   split at h
   ·rename_i B t1
    split at h
    ·rename_i hc
     simp only [Bool.and_eq_true] at hc
     obtain ⟨o0, o1⟩ := hc
     cases h
     exact ⟨FnPure.cov (r39Sam_p A B o0 o1) (.cons (cov_rows t0) (.cons (cov_rows t1) .nil)), rfl⟩
    ·cases h
   ·cases h
  ·cases h
 ·cases h

def l177 : List (FuncId × (List AV → Option (AV × Bool))) :=
 (17, g_r39Nec) :: (18, g_r39Sam) :: l176
theorem l177_ok : ∀ p ∈ l177, EntOk Tryd.prog p.1 p.2 := ent_cons e_r39Nec (ent_cons e_r39Sam (l176_ok))
def PT177 : PTab := tab l177
theorem PT177_ok : PTok Tryd.prog PT177 := tab_ok l177_ok
@[simp] theorem PT177_r39Nec : PT177 17 = g_r39Nec := rfl
@[simp] theorem PT177_r39Sam : PT177 18 = g_r39Sam := rfl
@[simp] theorem PT177_old (f : FuncId) (h : decide (f ≠ 17 ∧ f ≠ 18) = true) : PT177 f = PT176 f := (fun h => Eq.trans (tab_old h.1) (tab_old h.2)) (of_decide_eq_true h)
end Go.Proofs.YtecdhmiamlgibaaDoor
