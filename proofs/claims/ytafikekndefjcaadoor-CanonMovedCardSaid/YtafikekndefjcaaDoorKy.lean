/- Contract of canon.Key, by the abstract machine; no condition. -/
import Derived.Test.YtafikekndefjcaaDoorCt
import Derived.Test.YtafikekndefjcaaDoorWa
namespace Go.Proofs.YtafikekndefjcaaDoor
set_option linter.unusedVariables false
set_option linter.unusedSimpArgs false
set_option linter.unusedSectionVars false
open Go.RowKit
attribute [local simp] List.getD_cons_zero List.getD_cons_succ List.getD_nil undef gvars runL runE effA stepA dstOk wantA core lk st dl AS.ev AS.evs AS.put AS.upd updO updI nxt cPick cAlloc cBox cBuild cBuildS cLoad cStore cNil plainOf cBin cNilS isNilS nilA cUn cConvX cConvB cConv bytesOf rowB cMake cSlice slA idxA cFA cF cIA cIX cIS cI cExt cLen cApp cMM cFun cCall lenA lenM isNilM nilM cNilM cMakeM hintB cMapK cLook foundR lookR cUpd putM cDel delM findA isKeyB Instr.sameNow AS.entry AS.bound AS.callee sc1 sc2 ixOk ldA AV.flat AV.cell AV.cells Value.oneCell' fillA spl chunk zeros AS.parts AS.rows AS.shut AS.shut1 AS.shut2 AS.shutL AS.shutM AV.ids idsL idsLL eqAll bndA AV.scalar AV.scalar1 AV.isV Ef.app Ef.pk ptOf pntO wrO wr
attribute [-simp] List.getD_eq_getElem?_getD
set_option maxRecDepth 100000
theorem ren_bytes (ρ : Nat → Nat) (xs : List Int) : renLL ρ (xs.map fun x => [AV.v (.int .u8 x)]) = xs.map fun x => [AV.v (.int .u8 x)] := renLL_pure _ _ (ids_bytes xs)
attribute [local simp] ids_bytes ren_bytes renLL_append
theorem keyL_succ {U : List (List Int)} {i : Nat} (h : i < U.length) : keyL (U.take (i + 1)) = keyL (U.take i) ++ (((U.getD i []).length : Int) :: (U.getD i []).map litByte) := by
  have e : U.getD i [] = U[i] := by simp [List.getD, h]
  unfold keyL
  rw [List.take_succ_eq_append_getElem h, List.flatMap_append, e]
  simp
theorem keyL_len {U : List (List Int)} (hU : ∀ c ∈ U, c.length ≤ 128) : ∀ i, i ≤ U.length → (keyL (U.take i)).length ≤ 129 * i
  | 0, _ => by simp [keyL]
  | i + 1, h => by
    have := keyL_len hU i (by omega)
    have h2 := hU _ (getD_memL (show i < U.length by omega))
    rw [keyL_succ (by omega), List.length_append, List.length_cons, List.length_map]
    omega
def keyK (U : List (List Int)) (i k : Nat) : List Int := keyL (U.take i) ++ (((U.getD i []).length : Int) :: ((U.getD i []).take k).map litByte)
theorem keyK_succ {U : List (List Int)} {i k : Nat} (hk : k < (U.getD i []).length) : keyK U i (k + 1) = keyK U i k ++ [litByte ((U.getD i []).getD k 0)] := by
  unfold keyK
  generalize U.getD i [] = r at hk ⊢
  have e : r.getD k 0 = r[k] := by simp [List.getD, hk]
  rw [List.take_succ_eq_append_getElem hk, e, List.map_append, List.append_assoc, List.cons_append]
  rfl
theorem keyK_full {U : List (List Int)} {i : Nat} (hi : i < U.length) : keyK U i (U.getD i []).length = keyL (U.take (i + 1)) := by
  unfold keyK
  rw [keyL_succ hi, List.take_length]
theorem keyK_len {U : List (List Int)} (hU : ∀ c ∈ U, c.length ≤ 128) {i k : Nat} (hi : i < U.length) : (keyK U i k).length ≤ 129 * i + 129 := by
  have := keyL_len hU i (by omega)
  have h2 := hU _ (getD_memL hi)
  unfold keyK
  rw [List.length_append, List.length_cons, List.length_map, List.length_take]
  omega
def keyA (N : Int) (L : List (List Int)) : AV := if checkT N L = 0 then .tup [aB (keyL (smallL (normL L))), .v (.int .i64 0)] else .tup [.v (.slice none 0 0), .v (.int .i64 (checkT N L))]
theorem u8w {x : Int} (h0 : 0 ≤ x) (h1 : x < 256) : IntKind.u8.wrap x = x := by
  show x % 256 = x
  omega
theorem litByte_range {l : Int} (h : litOk l 128 = true) : 0 ≤ litByte l ∧ litByte l < 256 := by
  have := litOk_range h
  unfold litByte; split <;> omega
theorem key_ok (N : Int) (L : List (List Int)) (hN : okI N = true) (h : okRows L = true) (hz : checkT N L = 0) : FnPure Tryd.prog 19 [aTh N L] (keyA N L) := by
  have hsm : smallA N L = .tup [.agg [.v (.int .i64 ((smallN (normL L)).length : Int)), aRows (smallL (normL L))], aInts (smallN (normL L)), .v (.int .i64 0)] := by unfold smallA; rw [if_pos hz]; rfl
  unfold keyA
  rw [if_pos hz]
  have hck := small_check (normL_check hz)
  obtain ⟨_, hn128, hu2, hu3⟩ := checkT_ok hck
  have hUr := okRows_check hck
  generalize (smallN (normL L)) = names at hsm hck hn128 hu3
  generalize smallL (normL L) = U at hsm hck hu2 hu3 hUr ⊢
  have hU : ∀ c ∈ U, c.length ≤ 128 := fun c hc => (hu3 c hc).1
  clear hck
  unfold aTh
  refine fn_sp TT_ok Tryd.func19 (c := _) rfl (by simp [Tryd.ntmps19]) (fun B hI0 hro => ?_)
  rw [Tryd.ntmps19]
  simp only [enumA]
  refine amGo PT81_ok (h := ?_)
  refine s_nil 7 40 5 1 (by simp [lk]) (by simp) ?_
  simp only [st]
  refine s_loop (J := fun i : {i : Nat // i ≤ U.length} => ⟨53, [(7, .ref 40 0 (keyL (U.take i.1)).length), (22, aRows U), (23, .v (.int .i64 (U.length : Int))), (24, .v (.int .i64 (i.1 : Int)))], [(40, ⟨5, 1, (keyL (U.take i.1)).map fun x => [.v (.int .u8 x)]⟩)], [40]⟩) (μ := fun i => U.length - i.1) ⟨0, Nat.zero_le _⟩ ?_ (fun ⟨i, hi⟩ => ?_)
  · have h0 : keyL [] = [] := rfl
    (refine weak_id rfl ?_ ?_ <;> ((try simp only [List.mem_cons, List.not_mem_nil, or_false, forall_eq_or_imp, forall_eq]); (try simp (disch := omega) [i64w, *])))
  have hkl := keyL_len hU i hi
  have hcap : (keyL (U.take i)).length ≤ 140737488355327 := by omega
  refine amGo PT81_ok (h := ?_)
  (focus ((with_reducible refine sp_cond (b := ?_) ?_ (fun hc => ?_) (fun hc => ?_)); rotate_left; (focus (first | rfl | (simp [lk, AS.ev]; rfl))); all_goals (try simp at hc)))
  · have hii := hc
    clear hc
    have hrl := hU _ (getD_memL hii)
    have hro2 := okRows_at hUr i
    have hlits := (hu3 _ (getD_memL hii)).2
    have hw8 : IntKind.u8.wrap ((U.getD i []).length : Int) = ((U.getD i []).length : Int) := u8w (by omega) (by omega)
    refine amGo PT81_ok (h := ?_)
    refine s_loop (J := fun k : {k : Nat // k ≤ (U.getD i []).length} => ⟨53, [(7, .ref 40 0 (keyK U i k.1).length), (22, aRows U), (23, .v (.int .i64 (U.length : Int))), (24, .v (.int .i64 (i : Int))), (34, aInts (U.getD i [])), (35, .v (.int .i64 ((U.getD i []).length : Int))), (36, .v (.int .i64 (k.1 : Int)))], [(40, ⟨5, 1, (keyK U i k.1).map fun x => [.v (.int .u8 x)]⟩)], [40]⟩) (μ := fun k => (U.getD i []).length - k.1) ⟨0, Nat.zero_le _⟩ ?_ (fun ⟨k, hk⟩ => ?_)
    · have h0 : keyK U i 0 = keyL (U.take i) ++ [((U.getD i []).length : Int)] := by simp [keyK]
      (refine weak_of (fun k => if k = 40 then 46 else k) ⟨rfl, ?_, ?_, ?_⟩ <;> ((try simp only [List.mem_cons, List.not_mem_nil, or_false, forall_eq_or_imp, forall_eq]); (try simp (disch := omega) [lk, AV.ids, idsL, idsLL, AV.ren, renL, renLL, i64w, *])))
    have hkl2 := keyK_len hU (k := k) hii
    have hcap2 : (keyK U i k).length ≤ 140737488355327 := by omega
    refine amGo PT81_ok (h := ?_)
    (focus ((with_reducible refine sp_cond (b := ?_) ?_ (fun hc => ?_) (fun hc => ?_)); rotate_left; (focus (first | rfl | (simp [lk, AS.ev]; rfl))); all_goals (try simp at hc)))
    · have hkk := hc
      clear hc
      have hs := keyK_succ hkk
      have hx := okInts_at hro2 k
      have hlo := litOk_range (hlits _ (getD_memI hkk))
      generalize hl : (U.getD i []).getD k 0 = l at hs hx hlo
      have hlb : litByte l = if l < 0 then 127 - l else l - 1 := rfl
      have hb1 : IntKind.i64.wrap (128 - l) = 128 - l := i64w (by omega) (by omega)
      have hb2 : IntKind.i64.wrap (128 - l - 1) = 127 - l := by rw [i64w (by omega) (by omega)]; omega
      have hb3 : IntKind.i64.wrap (l - 1) = l - 1 := i64w (by omega) (by omega)
      refine amGo PT81_ok (h := ?_)
      (focus ((with_reducible refine sp_cond (b := ?_) ?_ (fun hc => ?_) (fun hc => ?_)); rotate_left; (focus (first | rfl | (simp [lk, AS.ev]; rfl))); all_goals (try simp at hc)))
      · rw [if_pos hc] at hlb
        have hb4 : IntKind.u8.wrap (127 - l) = 127 - l := u8w (by omega) (by omega)
        rw [hlb] at hs
        refine amGo PT81_ok (h := ?_)
        refine k_lp (⟨k + 1, by omega⟩ : {k : Nat // k ≤ (U.getD i []).length}) (by dsimp only; omega) ?_
        (refine weak_of (fun k => if k = 40 then 46 else k) ⟨rfl, ?_, ?_, ?_⟩ <;> ((try simp only [List.mem_cons, List.not_mem_nil, or_false, forall_eq_or_imp, forall_eq]); (try simp (disch := omega) [lk, AV.ids, idsL, idsLL, AV.ren, renL, renLL, i64w, *])))
      · rw [if_neg (by omega)] at hlb
        have hb4 : IntKind.u8.wrap (l - 1) = l - 1 := u8w (by omega) (by omega)
        rw [hlb] at hs
        refine amGo PT81_ok (h := ?_)
        refine k_lp (⟨k + 1, by omega⟩ : {k : Nat // k ≤ (U.getD i []).length}) (by dsimp only; omega) ?_
        (refine weak_of (fun k => if k = 40 then 46 else k) ⟨rfl, ?_, ?_, ?_⟩ <;> ((try simp only [List.mem_cons, List.not_mem_nil, or_false, forall_eq_or_imp, forall_eq]); (try simp (disch := omega) [lk, AV.ids, idsL, idsLL, AV.ren, renL, renLL, i64w, *])))
    · obtain rfl : k = (U.getD i []).length := by omega
      clear hc
      have hf := keyK_full hii
      refine amGo PT81_ok (h := ?_)
      refine k_lp (⟨i + 1, by omega⟩ : {i : Nat // i ≤ U.length}) (by dsimp only; omega) ?_
      (refine weak_id rfl ?_ ?_ <;> ((try simp only [List.mem_cons, List.not_mem_nil, or_false, forall_eq_or_imp, forall_eq]); (try simp (disch := omega) [i64w, *])))
  · obtain rfl : i = U.length := by omega
    clear hc
    rw [List.take_length] at hkl hcap ⊢
    refine amGo PT81_ok (h := ?_)
    ((refine post_ret (av := ?_) (by first | exact .inl rfl | exact .inr rfl) (show (Tryd.f19).results.toList = _ from by rw [Tryd.results19]) ?_ ?_); rotate_left; (focus (simp [retA, retL, ret1, lk, st, ldA, AV.cell]; rfl)); (try simp [*]))
    simp [ids_bytes, aB]
theorem key_p (N : Int) (L : List (List Int)) (hN : okI N = true) (h : okRows L = true) : FnPure Tryd.prog 19 [aTh N L] (keyA N L) := by
  by_cases hz : checkT N L = 0
  · exact key_ok N L hN h hz
  · have hsm : smallA N L = .tup [.agg [.v (.int .i64 0), .v (.slice none 0 0)], .v (.slice none 0 0), .v (.int .i64 (checkT N L))] := by unfold smallA; rw [if_neg hz]
    have hne : (checkT N L != 0) = true := by simpa using hz
    unfold keyA
    rw [if_neg hz]
    unfold aTh
    refine fn_sp TT_ok Tryd.func19 (c := _) rfl (by simp [Tryd.ntmps19]) (fun B hI0 hro => ?_)
    rw [Tryd.ntmps19]
    simp only [enumA]
    refine amGo PT81_ok (h := ?_)
    ((refine post_ret (av := ?_) (by first | exact .inl rfl | exact .inr rfl) (show (Tryd.f19).results.toList = _ from by rw [Tryd.results19]) ?_ ?_); rotate_left; (focus (simp [retA, retL, ret1, lk, st, ldA, AV.cell]; rfl)); (try simp [*]))
end Go.Proofs.YtafikekndefjcaaDoor
