/- The reference's bytes of claims: Bytes, Encode; and that Encode's stops change nothing; no condition. -/
import Derived.Test.YthdjgcjpolpgdaaRb22
import Derived.Test.YthdjgcjpolpgdaaWa
namespace Go.Proofs.Ythdjgcjpolpgdaa
set_option linter.unusedVariables false
set_option linter.unusedSimpArgs false
set_option linter.unusedSectionVars false
open Go.RowKit
attribute [local simp] List.getD_cons_zero List.getD_cons_succ List.getD_nil undef gvars runL runE effA stepA dstOk wantA core lk st dl AS.ev AS.evs AS.put AS.upd updO updI nxt cPick cAlloc cBox cBuild cBuildS cLoad cStore cNil plainOf cBin cNilS isNilS nilA cUn cConvX cConvB cConv bytesOf rowB cMake cSlice slA idxA cFA cF cIA cIX cIS cI cExt cLen cApp cMM cFun cCall lenA lenM isNilM nilM cNilM cMakeM hintB cMapK cLook foundR lookR cUpd putM cDel delM findA isKeyB Instr.sameNow AS.entry AS.bound AS.callee sc1 sc2 ixOk ldA AV.flat AV.cell AV.cells Value.oneCell' fillA spl chunk zeros AS.parts AS.rows AS.shut AS.shut1 AS.shut2 AS.shutL AS.shutM AV.ids idsL idsLL eqAll bndA AV.scalar AV.scalar1 AV.isV Ef.app Ef.pk ptOf pntO wrO wr
attribute [-simp] List.getD_eq_getElem?_getD
set_option maxRecDepth 100000
def litB (x : Int) : List Int := numB (litN x)
def tB (ts : List Int) : List Int := numB ts.length ++ ts.flatMap litB
def difB (cs : List Int) (k : Nat) : List Int := numB (cs.getD k 0 - if k = 0 then 0 else cs.getD (k - 1) 0).toNat
def cB (cs : List Int) : List Int := numB cs.length ++ (List.range cs.length).flatMap (difB cs)
def clB (c : Cl) : List Int := tB c.1 ++ cB c.2
def fullB (l : List Cl) : List Int := numB l.length ++ l.flatMap clB
def Gd (r f : List Int) : Prop := r = f ∨ (maxB < r.length ∧ maxB < f.length)
theorem Gd.app {r f : List Int} (h : Gd r f) (x : List Int) : Gd (r ++ x) (f ++ x) := by
  rcases h with rfl | ⟨h1, h2⟩
  · exact .inl rfl
  · exact .inr ⟨by rw [List.length_append]; omega, by rw [List.length_append]; omega⟩
theorem Gd.stop {r f : List Int} (h : Gd r f) (x : List Int) : Gd (if maxB < r.length then r else r ++ x) (f ++ x) := by
  split
  · rename_i hm
    rcases h with rfl | ⟨h1, h2⟩
    · exact .inr ⟨hm, by rw [List.length_append]; omega⟩
    · exact .inr ⟨h1, by rw [List.length_append]; omega⟩
  · exact h.app x
theorem gd_foldT : ∀ (ts : List Int) {r f : List Int}, Gd r f → Gd (ts.foldl putT r) (f ++ ts.flatMap litB)
  | [], r, f, h => by simpa using h
  | x :: ts, r, f, h => by
    rw [List.foldl_cons, List.flatMap_cons, ← List.append_assoc]
    exact gd_foldT ts (h.stop _)
theorem gd_wT {r f : List Int} (h : Gd r f) (ts : List Int) : Gd (wT r ts) (f ++ tB ts) := by
  unfold wT tB
  rw [← List.append_assoc]
  exact gd_foldT ts (h.app _)
theorem gd_foldC (cs : List Int) {r f : List Int} (h : Gd r f) : ∀ k, k ≤ cs.length → Gd ((cs.take k).foldl putC (r, 0)).1 (f ++ (List.range k).flatMap (difB cs))
  | 0, _ => by simpa using h
  | k + 1, hk => by
    have ih := gd_foldC cs h k (by omega)
    have hkk : k < cs.length := by omega
    rw [foldl_take putC (r, 0) hkk, List.range_succ, List.flatMap_append, ← List.append_assoc]
    have e : [k].flatMap (difB cs) = difB cs k := by simp
    rw [e]
    have hla := foldC_last r cs k (by omega)
    obtain ⟨s, hs⟩ : ∃ s, (cs.take k).foldl putC (r, 0) = s := ⟨_, rfl⟩
    rw [hs] at ih hla ⊢
    unfold putC
    split
    · rename_i hm
      rcases ih with h1 | ⟨h1, h2⟩
      · refine .inr ⟨hm, ?_⟩
        rw [h1] at hm
        rw [List.length_append]; omega
      · exact .inr ⟨hm, by rw [List.length_append]; omega⟩
    · rename_i hm
      rw [hla (by omega)]
      have e2 : cs[k] = cs.getD k 0 := by simp [List.getD, hkk]
      rw [e2]
      exact ih.app _
theorem gd_wC {r f : List Int} (h : Gd r f) (cs : List Int) : Gd (wC r cs) (f ++ cB cs) := by
  unfold wC cB
  rw [← List.append_assoc]
  have := gd_foldC cs (h.app (numB cs.length)) cs.length (Nat.le_refl _)
  rwa [List.take_length] at this
theorem gd_foldE : ∀ (l : List Cl) {r f : List Int}, Gd r f → Gd (l.foldl putE r) (f ++ l.flatMap clB)
  | [], r, f, h => by simpa using h
  | c :: l, r, f, h => by
    rw [List.foldl_cons, List.flatMap_cons, ← List.append_assoc]
    refine gd_foldE l ?_
    unfold putE clB
    split
    · rename_i hm
      rcases h with rfl | ⟨h1, h2⟩
      · exact .inr ⟨hm, by rw [List.length_append]; omega⟩
      · exact .inr ⟨h1, by rw [List.length_append]; omega⟩
    · rw [← List.append_assoc]
      exact gd_wC (gd_wT h c.1) c.2
theorem bytes_full (l : List Cl) : Gd (bytesA l) (fullB l) := gd_foldE l (.inl rfl)
def encF (l : List Cl) : AV :=
  if 65536 < l.length then .tup [.v (.slice none 0 0), .v (.int .i64 2)]
  else if l.all clG = false then .tup [.v (.slice none 0 0), .v (.int .i64 1)]
  else if maxB < (fullB l).length then .tup [.v (.slice none 0 0), .v (.int .i64 2)]
  else .tup [aB (fullB l), .v (.int .i64 0)]
theorem encA_eq (l : List Cl) : encA l = encF l := by
  unfold encA encF
  rcases bytes_full l with h | ⟨h1, h2⟩
  · rw [h]
  · rw [if_pos h1, if_pos h2]
theorem flat_len {α : Type} (f : α → List Int) (K : Nat) : ∀ xs : List α, (∀ x ∈ xs, (f x).length ≤ K) → (xs.flatMap f).length ≤ K * xs.length
  | [], _ => by simp
  | x :: xs, h => by
    have h1 := h x (by simp)
    have h2 := flat_len f K xs (fun y hy => h y (by simp [hy]))
    rw [List.flatMap_cons, List.length_append, List.length_cons, Nat.mul_add]
    omega
theorem litB_len {x : Int} (h : okLit x = true) : (litB x).length ≤ 9 := by
  simp only [okLit, Bool.and_eq_true, decide_eq_true_eq] at h
  exact numB_len9 (by have := litN_le h.1 h.2; omega)
theorem difB_len {cs : List Int} (h : ∀ i ∈ cs, 0 ≤ i ∧ i < 4096) {k : Nat} (hk : k < cs.length) : (difB cs k).length ≤ 9 := by
  have h1 := h _ (getD_memI hk)
  unfold difB
  refine numB_len9 ?_
  split
  · omega
  · have h2 := h _ (getD_memI (show k - 1 < cs.length by omega))
    omega
theorem clB_len {c : Cl} (h : clG c = true) : (clB c).length ≤ 40000 := by
  obtain ⟨ts, cs⟩ := c
  obtain ⟨f1, f2, f3, f4, _⟩ := clG_facts h
  have h1 := flat_len litB 9 ts (fun x hx => litB_len (List.all_eq_true.1 f1 x hx))
  have h2 := flat_len (difB cs) 9 (List.range cs.length) (fun k hk => difB_len f4 (List.mem_range.1 hk))
  have h3 := numB_len9 (n := ts.length) (by omega)
  have h4 := numB_len9 (n := cs.length) (by omega)
  rw [List.length_range] at h2
  simp only [clB, tB, cB, List.length_append]
  omega
theorem flat_take {α : Type} (f : α → List Int) {xs : List α} {k : Nat} (hk : k < xs.length) : (xs.take (k + 1)).flatMap f = (xs.take k).flatMap f ++ f xs[k] := by
  rw [List.take_succ_eq_append_getElem hk, List.flatMap_append]; simp
theorem s_drawQ {P : Program} {B : Base} {σ : AS} {Q : Exit → AS → Prop} {TT : TTab} {PT : PTab} (q : Nat) {id : Nat} {l : List Oper} {es : List Ef} {σ' : AS} (hP : P.follows .mixedOrders = true) (hTT : TTok P TT) (hPT : PTok P PT) (h : runE TT PT l.toArray l q σ = some (σ', es)) (hok : ordOk l es = true) (k : Q .normal σ') : SP P B (.region id l.toArray true) σ Q :=
  s_drawG (ops := l.toArray) hP (eff := effA TT PT l.toArray) (fun D id σ o e h => effA_eff hTT hPT h) (q := q) (by rw [← runE_runG]; exact h) hok k
attribute [local simp] AV.ren renL aB
set_option maxHeartbeats 8000000 in
theorem bytes_robj (l : List Cl) (hl : okCl l = true) (hf : l.all clG = true) (h1 : l.length ≤ 65536) : FnObj Try.prog 56 [aCls l] (.ref 0 0 (fullB l).length) [(0, bO (fullB l))] [0] := by
  refine fn_obj TT_ok Try.func56 (c := _) rfl (by simp [Try.ntmps56]) (within_B _) (fun B hI0 hro => ?_)
  rw [Try.ntmps56]
  unfold aCls
  simp only [enumA]
  have hO : ∀ k, k ≤ l.length → (numB l.length ++ (l.take k).flatMap clB).length ≤ 3000000000 := fun k hk => by
    have h2 := flat_len clB 40000 (l.take k) (fun c hc => clB_len (List.all_eq_true.1 hf c (List.mem_of_mem_take hc)))
    have h3 := numB_len9 (n := l.length) (by omega)
    have h4 := List.length_take (i := k) (l := l)
    rw [List.length_append]
    omega
  refine amStr (h := ?_)
  refine amReg PT110_ok (h := ?_)
  refine amStr (h := ?_)
  refine s_regionL ?_
  ((iterate 2 (((with_reducible refine spl_step TT_ok PT110_ok (id := 0) (σ' := ?_) ?_ ?_); rotate_left; (focus (simp [*]; rfl))))))
  refine spl_obj (number_robj l.length l.length (Nat.le_refl _) (by omega)) 60 (by simp) rfl rfl (enters_ok (avs := [.v (.int .i64 (l.length : Int))]) (cs := []) rfl (by kernel_rfl) rfl rfl) (by simp [idsL, AV.ids]) (fun c h => by cases h) ?_
  simp only [bO, shO, List.map_cons, List.map_nil, d_renLL_b, AV.ren, Nat.zero_add, List.cons_append, List.nil_append]
  (refine spl_eq (τ := ?_) ?_ ?_; rotate_left; (focus ((try simp only [AS.frz, List.map_cons, List.map_nil]); (try simp [frzV, frzO, frzC, List.filter]); rfl)))
  ((iterate 1 (((with_reducible refine spl_step TT_ok PT110_ok (id := 0) (σ' := ?_) ?_ ?_); rotate_left; (focus (simp [*]; rfl))))))
  refine spl_nil ?_
  refine amStr (h := ?_)
  refine amReg PT110_ok (h := ?_)
  refine amStr (h := ?_)
  obtain ⟨O, hOe⟩ : ∃ O : Nat → List Int, (fun k => numB l.length ++ (l.take k).flatMap clB) = O := ⟨_, rfl⟩
  have hO0 : numB l.length = O 0 := by rw [← hOe]; simp
  have hOF : fullB l = O l.length := by rw [← hOe]; simp [fullB]
  have hOs : ∀ k (h : k < l.length), O (k + 1) = O k ++ clB (l.getD k ([], [])) := fun k h => by
    rw [← hOe]
    dsimp only
    rw [flat_take clB h, List.append_assoc]
    congr 2
    simp [List.getD, h]
  have hOl : ∀ k, k ≤ l.length → (O k).length ≤ 3000000000 := fun k hk => by rw [← hOe]; exact hO k hk
  rw [hO0, hOF]
  clear hO0 hOF hO hOe
  refine s_loop (J := fun i : {k : Nat // k ≤ l.length} => ⟨97, [(0, .sl 2 (l.map fun p => [aInts p.1, aInts p.2])), (3, .ref 60 0 (O i.1).length), (4, .v (.int .i64 (i.1 : Int)))], [(60, ⟨5, 1, (O i.1).map fun x => [.v (.int .u8 x)]⟩)], [60]⟩) (μ := fun i => l.length - i.1) ⟨0, Nat.zero_le _⟩ ?_ (fun ⟨i, hie⟩ => ?_)
  · (refine weak_id rfl ?_ ?_ <;> ((try simp only [List.mem_cons, List.not_mem_nil, or_false, forall_eq_or_imp, forall_eq]); (try simp (disch := omega) [i64w, *])))
  dsimp only
  have hOi := hOl i hie
  have hOi2 := hOs i
  obtain ⟨P, hP⟩ : ∃ P, O i = P := ⟨_, rfl⟩
  rw [hP] at hOi hOi2
  rw [hP]
  refine amStr (h := ?_)
  refine amReg PT110_ok (h := ?_)
  refine amStr (h := ?_)
  (focus ((with_reducible refine sp_cond (b := ?_) ?_ (fun hc => ?_) (fun hc => ?_)); rotate_left; (focus (first | rfl | (simp [lk, AS.ev]; rfl))); all_goals (try simp at hc)))
  · have hii := hc
    clear hc
    have hS := hOi2 hii
    have hOi3 := hOl (i + 1) (by omega)
    have hcg := List.all_eq_true.1 hf _ (cl_mem hii)
    obtain ⟨o1, o2⟩ := okCl_at hl (cl_mem hii)
    obtain ⟨ts, cs, hp⟩ : ∃ ts cs, l.getD i ([], []) = (ts, cs) := ⟨_, _, rfl⟩
    rw [hp] at o1 o2 hcg hS
    dsimp only at o1 o2
    obtain ⟨f1, f2, f3, f4, f5⟩ := clG_facts hcg
    clear hOi2
    have hn1 := numB_len9 (n := ts.length) (by omega)
    have hn2 := numB_len9 (n := cs.length) (by omega)
    have i1 : (ts.length : Int) < 4611686018427387904 := by omega
    have i2 : (cs.length : Int) < 4611686018427387904 := by omega
    have k1 : okI (ts.length : Int) = true := okI_iff.2 ⟨by omega, by omega⟩
    have k2 : okI (cs.length : Int) = true := okI_iff.2 ⟨by omega, by omega⟩
    have c1 : P.length + (numB ts.length).length ≤ 140737488355328 := by omega
    refine amStr (h := ?_)
    refine amReg PT110_ok (h := ?_)
    refine amStr (h := ?_)
    refine amReg PT110_ok (h := ?_)
    refine amStr (h := ?_)
    obtain ⟨S, hSe⟩ : ∃ S : Nat → List Int, (fun k => P ++ numB ts.length ++ (ts.take k).flatMap litB) = S := ⟨_, rfl⟩
    have s0 : P ++ numB ts.length = S 0 := by rw [← hSe]; simp
    have sF : P ++ tB ts = S ts.length := by rw [← hSe]; simp [tB]
    have sS : ∀ k (h : k < ts.length), S (k + 1) = S k ++ litB (ts.getD k 0) := fun k h => by
      rw [← hSe]
      dsimp only
      rw [flat_take litB h, ← List.append_assoc]
      congr 2
      simp [List.getD, h]
    have sL : ∀ k, k ≤ ts.length → (S k).length ≤ 4000000000 := fun k hk => by
      have h2 := flat_len litB 9 (ts.take k) (fun x hx => litB_len (List.all_eq_true.1 f1 x (List.mem_of_mem_take hx)))
      have h4 := List.length_take (i := k) (l := ts)
      rw [← hSe]
      dsimp only
      simp only [List.length_append]
      omega
    have e1 : P.length + (numB ts.length).length = (S 0).length := by rw [← s0, List.length_append]
    have e2 : P.map (fun x => [AV.v (.int .u8 x)]) ++ (numB ts.length).map (fun x => [AV.v (.int .u8 x)]) = (S 0).map (fun x => [AV.v (.int .u8 x)]) := by rw [← s0, List.map_append]
    rw [e1, e2]
    clear e1 e2 s0 hSe
    refine amReg PT110_ok (h := ?_)
    refine amStr (h := ?_)
    refine s_loop (J := fun k : {k : Nat // k ≤ ts.length} => ⟨97, [(0, .sl 2 (l.map fun p => [aInts p.1, aInts p.2])), (3, .ref 71 0 (S k.1).length), (4, .v (.int .i64 (i : Int))), (5, .ptr 65 0 0), (6, .v (.int .i64 (k.1 : Int)))], [(65, ⟨27, 2, [[aInts ts, aInts cs]]⟩), (71, ⟨5, 1, (S k.1).map fun x => [.v (.int .u8 x)]⟩)], [71, 65]⟩) (μ := fun k => ts.length - k.1) ⟨0, Nat.zero_le _⟩ ?_ (fun ⟨k, hke⟩ => ?_)
    · (refine weak_id rfl ?_ ?_ <;> ((try simp only [List.mem_cons, List.not_mem_nil, or_false, forall_eq_or_imp, forall_eq]); (try simp (disch := omega) [i64w, *])))
    dsimp only
    have hSk := sL k hke
    have hSk2 := sS k
    obtain ⟨D, hD⟩ : ∃ D, S k = D := ⟨_, rfl⟩
    rw [hD] at hSk hSk2
    rw [hD]
    refine amStr (h := ?_)
    refine amReg PT110_ok (h := ?_)
    refine amStr (h := ?_)
    (focus ((with_reducible refine sp_cond (b := ?_) ?_ (fun hc => ?_) (fun hc => ?_)); rotate_left; (focus (first | rfl | (simp [lk, AS.ev]; rfl))); all_goals (try simp at hc)))
    · have hkk := hc
      clear hc
      have hSS := hSk2 hkk
      have hSk3 := sL (k + 1) (by omega)
      have hxl := List.all_eq_true.1 f1 _ (getD_memI hkk)
      have hlb := litB_len hxl
      have hxi : okI (ts.getD k 0) = true := okI_iff.2 (okInts_at o1 k)
      clear hSk2
      obtain ⟨x, hx⟩ : ∃ x, ts.getD k 0 = x := ⟨_, rfl⟩
      rw [hx] at hSS hxl hlb hxi
      unfold litB at hSS hlb
      unfold okLit at hxl
      simp only [Bool.and_eq_true, decide_eq_true_eq] at hxl
      have w1 : IntKind.i64.wrap (2 * x) = 2 * x := i64w (by omega) (by omega)
      have w2 : IntKind.i64.wrap (-2 * x) = -2 * x := i64w (by omega) (by omega)
      have w3 : IntKind.i64.wrap (-2 * x + 1) = -2 * x + 1 := i64w (by omega) (by omega)
      have wk : IntKind.i64.wrap ((k : Int) + 1) = (k : Int) + 1 := i64s k (by omega)
      by_cases h0 : 0 < x
      · have hln : litN x = (2 * x).toNat := by unfold litN; rw [if_pos h0]
        rw [hln] at hSS hlb
        have j1 : okI (2 * x) = true := okI_iff.2 ⟨by omega, by omega⟩
        have j2 : (0 : Int) ≤ 2 * x := by omega
        have j3 : 2 * x < (4611686018427387904 : Int) := by omega
        have c2 : D.length + (numB (2 * x).toNat).length ≤ 140737488355328 := by omega
        refine amStr (h := ?_)
        refine amReg PT110_ok (h := ?_)
        refine amStr (h := ?_)
        refine s_regionL ?_
        ((iterate 8 (((with_reducible refine spl_step TT_ok PT110_ok (id := 0) (σ' := ?_) ?_ ?_); rotate_left; (focus (simp [*]; rfl))))))
        (((with_reducible refine spl_step TT_ok PT110_ok (id := 72) (σ' := ?_) ?_ ?_); rotate_left; (focus (simp [*]; rfl))))
        ((iterate 1 (((with_reducible refine spl_step TT_ok PT110_ok (id := 0) (σ' := ?_) ?_ ?_); rotate_left; (focus (simp [*]; rfl))))))
        refine spl_nil ?_
        have e1 : D.length + (numB (2 * x).toNat).length = (S (k + 1)).length := by rw [hSS, List.length_append]
        have e2 : D.map (fun x => [AV.v (.int .u8 x)]) ++ (numB (2 * x).toNat).map (fun x => [AV.v (.int .u8 x)]) = (S (k + 1)).map (fun x => [AV.v (.int .u8 x)]) := by rw [hSS, List.map_append]
        rw [e1, e2]
        refine amStr (h := ?_)
        refine amReg PT110_ok (h := ?_)
        refine amStr (h := ?_)
        refine k_lp (⟨k + 1, by omega⟩ : {k : Nat // k ≤ ts.length}) (by dsimp only; omega) ?_
        (refine weak_of (fun q => if q = 71 then 72 else q) ⟨rfl, ?_, ?_, ?_⟩ <;> ((try simp only [List.mem_cons, List.not_mem_nil, or_false, forall_eq_or_imp, forall_eq]); (try simp (disch := omega) [lk, AV.ids, idsL, idsLL, AV.ren, renL, renLL, i64w, *])))
      · have hln : litN x = (-2 * x + 1).toNat := by unfold litN; rw [if_neg h0]; congr 1; omega
        rw [hln] at hSS hlb
        have j1 : okI (-2 * x + 1) = true := okI_iff.2 ⟨by omega, by omega⟩
        have j2 : (0 : Int) ≤ -2 * x + 1 := by omega
        have j3 : -2 * x + 1 < (4611686018427387904 : Int) := by omega
        have c2 : D.length + (numB (-2 * x + 1).toNat).length ≤ 140737488355328 := by omega
        refine amStr (h := ?_)
        refine amReg PT110_ok (h := ?_)
        refine amStr (h := ?_)
        refine s_regionL ?_
        ((iterate 9 (((with_reducible refine spl_step TT_ok PT110_ok (id := 0) (σ' := ?_) ?_ ?_); rotate_left; (focus (simp [*]; rfl))))))
        (((with_reducible refine spl_step TT_ok PT110_ok (id := 72) (σ' := ?_) ?_ ?_); rotate_left; (focus (simp [*]; rfl))))
        ((iterate 1 (((with_reducible refine spl_step TT_ok PT110_ok (id := 0) (σ' := ?_) ?_ ?_); rotate_left; (focus (simp [*]; rfl))))))
        refine spl_nil ?_
        have e1 : D.length + (numB (-2 * x + 1).toNat).length = (S (k + 1)).length := by rw [hSS, List.length_append]
        have e2 : D.map (fun x => [AV.v (.int .u8 x)]) ++ (numB (-2 * x + 1).toNat).map (fun x => [AV.v (.int .u8 x)]) = (S (k + 1)).map (fun x => [AV.v (.int .u8 x)]) := by rw [hSS, List.map_append]
        rw [e1, e2]
        refine amStr (h := ?_)
        refine amReg PT110_ok (h := ?_)
        refine amStr (h := ?_)
        refine k_lp (⟨k + 1, by omega⟩ : {k : Nat // k ≤ ts.length}) (by dsimp only; omega) ?_
        (refine weak_of (fun q => if q = 71 then 72 else q) ⟨rfl, ?_, ?_, ?_⟩ <;> ((try simp only [List.mem_cons, List.not_mem_nil, or_false, forall_eq_or_imp, forall_eq]); (try simp (disch := omega) [lk, AV.ids, idsL, idsLL, AV.ren, renL, renLL, i64w, *])))
    · obtain rfl : k = ts.length := by omega
      clear hc hSk2
      rw [hD] at sF
      clear hD
      refine amStr (h := ?_)
      have hDl : (P ++ tB ts).length ≤ 3000000000 := by
        have h3 := hOi3
        rw [hS] at h3
        unfold clB at h3
        dsimp only at h3
        rw [← List.append_assoc, List.length_append] at h3
        omega
      rw [sF] at hDl
      have c3 : D.length + (numB cs.length).length ≤ 140737488355328 := by omega
      refine s_regionL ?_
      ((iterate 5 (((with_reducible refine spl_step TT_ok PT110_ok (id := 0) (σ' := ?_) ?_ ?_); rotate_left; (focus (simp [*]; rfl))))))
      (((with_reducible refine spl_step TT_ok PT110_ok (id := 73) (σ' := ?_) ?_ ?_); rotate_left; (focus (simp [*]; rfl))))
      ((iterate 1 (((with_reducible refine spl_step TT_ok PT110_ok (id := 0) (σ' := ?_) ?_ ?_); rotate_left; (focus (simp [*]; rfl))))))
      refine spl_nil ?_
      obtain ⟨V, hVe⟩ : ∃ V : Nat → List Int, (fun k => D ++ numB cs.length ++ (List.range k).flatMap (difB cs)) = V := ⟨_, rfl⟩
      have v0 : D ++ numB cs.length = V 0 := by rw [← hVe]; simp
      have vF : O (i + 1) = V cs.length := by rw [hS, ← hVe]; simp [clB, cB, ← sF]
      have vS : ∀ k, V (k + 1) = V k ++ difB cs k := fun k => by
        rw [← hVe]
        dsimp only
        rw [List.range_succ, List.flatMap_append, ← List.append_assoc]
        simp
      have vL : ∀ k, k ≤ cs.length → (V k).length ≤ 4000000000 := fun k hk => by
        have h2 := flat_len (difB cs) 9 (List.range k) (fun x hx => difB_len f4 (by have := List.mem_range.1 hx; omega))
        rw [← hVe]
        dsimp only
        rw [List.length_range] at h2
        simp only [List.length_append]
        omega
      have e1 : D.length + (numB cs.length).length = (V 0).length := by rw [← v0, List.length_append]
      have e2 : D.map (fun x => [AV.v (.int .u8 x)]) ++ (numB cs.length).map (fun x => [AV.v (.int .u8 x)]) = (V 0).map (fun x => [AV.v (.int .u8 x)]) := by rw [← v0, List.map_append]
      rw [e1, e2]
      clear e1 e2 v0 hVe sS sL hS
      refine amStr (h := ?_)
      refine amReg PT110_ok (h := ?_)
      refine amStr (h := ?_)
      refine s_loop (J := fun k : {k : Nat // k ≤ cs.length} => ⟨97, [(0, .sl 2 (l.map fun p => [aInts p.1, aInts p.2])), (3, .ref 73 0 (V k.1).length), (4, .v (.int .i64 (i : Int))), (5, .ptr 65 0 0), (7, .v (.int .i64 (k.1 : Int)))], [(65, ⟨27, 2, [[aInts ts, aInts cs]]⟩), (73, ⟨5, 1, (V k.1).map fun x => [.v (.int .u8 x)]⟩)], [73, 65]⟩) (μ := fun k => cs.length - k.1) ⟨0, Nat.zero_le _⟩ ?_ (fun ⟨k, hke⟩ => ?_)
      · (refine weak_id rfl ?_ ?_ <;> ((try simp only [List.mem_cons, List.not_mem_nil, or_false, forall_eq_or_imp, forall_eq]); (try simp (disch := omega) [i64w, *])))
      dsimp only
      have hVk := vL k hke
      have hVk2 := vS k
      obtain ⟨E, hE⟩ : ∃ E, V k = E := ⟨_, rfl⟩
      rw [hE] at hVk hVk2
      clear vS
      rw [hE]
      refine amStr (h := ?_)
      refine amReg PT110_ok (h := ?_)
      refine amStr (h := ?_)
      (focus ((with_reducible refine sp_cond (b := ?_) ?_ (fun hc => ?_) (fun hc => ?_)); rotate_left; (focus (first | rfl | (simp [lk, AS.ev]; rfl))); all_goals (try simp at hc)))
      · have hkk := hc
        clear hc
        have hdl := difB_len f4 hkk
        have hxm := f4 _ (getD_memI hkk)
        have wk : IntKind.i64.wrap ((k : Int) + 1) = (k : Int) + 1 := i64s k (by omega)
        rcases Nat.eq_zero_or_pos k with rfl | hp2
        · have hd : difB cs 0 = numB (cs.getD 0 0).toNat := by simp [difB]
          obtain ⟨x, hx⟩ : ∃ x, cs.getD 0 0 = x := ⟨_, rfl⟩
          rw [hx] at hd hxm
          rw [hd] at hVk2 hdl
          have j1 : okI x = true := okI_iff.2 ⟨by omega, by omega⟩
          have j2 : (0 : Int) ≤ x := hxm.1
          have j3 : x < (4611686018427387904 : Int) := by omega
          have c2 : E.length + (numB x.toNat).length ≤ 140737488355328 := by omega
          refine amStr (h := ?_)
          refine amReg PT110_ok (h := ?_)
          refine amStr (h := ?_)
          refine s_regionL ?_
          ((iterate 6 (((with_reducible refine spl_step TT_ok PT110_ok (id := 0) (σ' := ?_) ?_ ?_); rotate_left; (focus (simp [*]; rfl))))))
          (((with_reducible refine spl_step TT_ok PT110_ok (id := 74) (σ' := ?_) ?_ ?_); rotate_left; (focus (simp [*]; rfl))))
          ((iterate 1 (((with_reducible refine spl_step TT_ok PT110_ok (id := 0) (σ' := ?_) ?_ ?_); rotate_left; (focus (simp [*]; rfl))))))
          refine spl_nil ?_
          have e1 : E.length + (numB x.toNat).length = (V (0 + 1)).length := by rw [hVk2, List.length_append]
          have e2 : E.map (fun x => [AV.v (.int .u8 x)]) ++ (numB x.toNat).map (fun x => [AV.v (.int .u8 x)]) = (V (0 + 1)).map (fun x => [AV.v (.int .u8 x)]) := by rw [hVk2, List.map_append]
          rw [e1, e2]
          clear e1 e2 hVk2
          refine amStr (h := ?_)
          refine s_regionL ?_
          ((iterate 3 (((with_reducible refine spl_step TT_ok PT110_ok (id := 0) (σ' := ?_) ?_ ?_); rotate_left; (focus (simp [*]; rfl))))))
          refine spl_nil ?_
          refine amStr (h := ?_)
          refine k_lp (⟨0 + 1, by omega⟩ : {k : Nat // k ≤ cs.length}) (by dsimp only; omega) ?_
          (refine weak_of (fun q => if q = 73 then 74 else q) ⟨rfl, ?_, ?_, ?_⟩ <;> ((try simp only [List.mem_cons, List.not_mem_nil, or_false, forall_eq_or_imp, forall_eq]); (try simp (disch := omega) [lk, AV.ids, idsL, idsLL, AV.ren, renL, renLL, i64w, *])))
        · have hd : difB cs k = numB (cs.getD k 0 - cs.getD (k - 1) 0).toNat := by unfold difB; rw [if_neg (by omega)]
          have hlt := f5 (k - 1) k (by omega) hkk
          have hym := f4 _ (getD_memI (show k - 1 < cs.length by omega))
          obtain ⟨j, hj⟩ : ∃ j, k - 1 = j := ⟨_, rfl⟩
          rw [hj] at hd hlt hym
          have hs1 : (k : Int) - 1 = (j : Int) := by omega
          have hw1 : IntKind.i64.wrap (j : Int) = j := i64n j (by omega)
          have hk2 : j < cs.length := by omega
          have hk0 : ((k : Int) == 0) = false := by simp only [beq_eq_false_iff_ne]; omega
          obtain ⟨x, hx⟩ : ∃ x, cs.getD k 0 = x := ⟨_, rfl⟩
          obtain ⟨y, hy⟩ : ∃ y, cs.getD j 0 = y := ⟨_, rfl⟩
          rw [hx, hy] at hd hlt
          rw [hx] at hxm
          rw [hy] at hym
          rw [hd] at hVk2 hdl
          have hwz : IntKind.i64.wrap (x - y) = x - y := i64w (by omega) (by omega)
          have j1 : okI (x - y) = true := okI_iff.2 ⟨by omega, by omega⟩
          have j2 : (0 : Int) ≤ x - y := by omega
          have j3 : x - y < (4611686018427387904 : Int) := by omega
          obtain ⟨z, hz⟩ : ∃ z, x - y = z := ⟨_, rfl⟩
          rw [hz] at hVk2 hdl hwz j1 j2 j3
          have c2 : E.length + (numB z.toNat).length ≤ 140737488355328 := by omega
          clear hj hlt hd
          refine amStr (h := ?_)
          refine amReg PT110_ok (h := ?_)
          refine amStr (h := ?_)
          (focus ((with_reducible refine s_drawQ 74 (es := ?_) (σ' := ?_) prog_mixed TT_ok PT110_ok ?_ ?_ ?_); rotate_left 2; (focus ((repeat (((with_reducible refine runE_cons (e := ?_) (σ1 := ?_) (es := ?_) ?_ ?_ ?_); rotate_left 3; (focus (simp [*]; exact Eq.refl _)); (focus (simp; exact Eq.refl _))))); (exact runE_nil))); (focus (first | kernel_rfl | decide))))
          have e1 : E.length + (numB z.toNat).length = (V (k + 1)).length := by rw [hVk2, List.length_append]
          have e2 : E.map (fun x => [AV.v (.int .u8 x)]) ++ (numB z.toNat).map (fun x => [AV.v (.int .u8 x)]) = (V (k + 1)).map (fun x => [AV.v (.int .u8 x)]) := by rw [hVk2, List.map_append]
          rw [e1, e2]
          clear e1 e2 hVk2
          refine amStr (h := ?_)
          refine amReg PT110_ok (h := ?_)
          refine amStr (h := ?_)
          refine k_lp (⟨k + 1, by omega⟩ : {k : Nat // k ≤ cs.length}) (by dsimp only; omega) ?_
          (refine weak_of (fun q => if q = 73 then 88 else q) ⟨rfl, ?_, ?_, ?_⟩ <;> ((try simp only [List.mem_cons, List.not_mem_nil, or_false, forall_eq_or_imp, forall_eq]); (try simp (disch := omega) [lk, AV.ids, idsL, idsLL, AV.ren, renL, renLL, i64w, *])))
      · obtain rfl : k = cs.length := by omega
        clear hc
        have hVO : O (i + 1) = E := by rw [vF]; exact hE
        have wi : IntKind.i64.wrap ((i : Int) + 1) = (i : Int) + 1 := i64s i (by omega)
        refine amStr (h := ?_)
        refine amReg PT110_ok (h := ?_)
        refine amStr (h := ?_)
        refine k_lp (⟨i + 1, by omega⟩ : {k : Nat // k ≤ l.length}) (by dsimp only; omega) ?_
        dsimp only
        rw [hVO]
        (refine weak_of (fun q => if q = 60 then 73 else q) ⟨rfl, ?_, ?_, ?_⟩ <;> ((try simp only [List.mem_cons, List.not_mem_nil, or_false, forall_eq_or_imp, forall_eq]); (try simp (disch := omega) [lk, AV.ids, idsL, idsLL, AV.ren, renL, renLL, i64w, *])))
  · obtain rfl : i = l.length := by omega
    clear hc hOi2
    refine amStr (h := ?_)
    refine amReg PT110_ok (h := ?_)
    refine amStr (h := ?_)
    rw [hP]
    refine post_obj (av := .ref 60 0 P.length) (.inr rfl) (by rw [Try.results56]) ?_ (fun _ => 60) rfl (fun k ob hk => ?_) (fun k ob k' ob' hk hk' _ => ?_)
    · simp [retA, retL, ret1, lk, ldA, AV.cell]
    · simp only [lk] at hk
      split at hk <;> cases hk
      simp [lk, bO]
    · simp only [lk] at hk hk'
      split at hk <;> cases hk
      split at hk' <;> cases hk'
      omega
end Go.Proofs.Ythdjgcjpolpgdaa
