/- trace.Encode: the bytes of claims; no condition. -/
import Derived.Test.YthdjgcjpolpgdaaWc22
import Derived.Test.YthdjgcjpolpgdaaWa
import Derived.Test.YthdjgcjpolpgdaaFn22
import Derived.Test.YthdjgcjpolpgdaaOb7
namespace Go.Proofs.Ythdjgcjpolpgdaa
set_option linter.unusedVariables false
set_option linter.unusedSimpArgs false
set_option linter.unusedSectionVars false
open Go.RowKit
attribute [local simp] List.getD_cons_zero List.getD_cons_succ List.getD_nil undef gvars runL runE effA stepA dstOk wantA core lk st dl AS.ev AS.evs AS.put AS.upd updO updI nxt cPick cAlloc cBox cBuild cBuildS cLoad cStore cNil plainOf cBin cNilS isNilS nilA cUn cConvX cConvB cConv bytesOf rowB cMake cSlice slA idxA cFA cF cIA cIX cIS cI cExt cLen cApp cMM cFun cCall lenA lenM isNilM nilM cNilM cMakeM hintB cMapK cLook foundR lookR cUpd putM cDel delM findA isKeyB Instr.sameNow AS.entry AS.bound AS.callee sc1 sc2 ixOk ldA AV.flat AV.cell AV.cells Value.oneCell' fillA spl chunk zeros AS.parts AS.rows AS.shut AS.shut1 AS.shut2 AS.shutL AS.shutM AV.ids idsL idsLL eqAll bndA AV.scalar AV.scalar1 AV.isV Ef.app Ef.pk ptOf pntO wrO wr
attribute [-simp] List.getD_eq_getElem?_getD
set_option maxRecDepth 100000
abbrev Cl := List Int × List Int
def aCls (l : List Cl) : AV := .sl 2 (l.map fun p => [aInts p.1, aInts p.2])
def okCl (l : List Cl) : Bool := decide (l.length ≤ 100000) && l.all fun p => okInts p.1 && okInts p.2
def clG (p : Cl) : Bool := goodB 128 4096 p.1 p.2
def putE (b : List Int) (c : Cl) : List Int := if maxB < b.length then b else wC (wT b c.1) c.2
def bytesA (l : List Cl) : List Int := l.foldl putE (numB l.length)
@[simp ↓ high] theorem d_ids_aCls (l : List Cl) : idsLL (l.map fun p => [aInts p.1, aInts p.2]) = [] := by
  induction l with
  | nil => rfl
  | cons p l ih => simp [idsLL, idsL, ih]
@[simp ↓ high] theorem d_ren_aCls (ρ : Nat → Nat) (l : List Cl) : renLL ρ (l.map fun p => [aInts p.1, aInts p.2]) = l.map fun p => [aInts p.1, aInts p.2] := renLL_pure ρ _ (d_ids_aCls l)
@[simp] theorem cls_get {l : List Cl} {k : Nat} (h : k < l.length) : (l.map fun p => [aInts p.1, aInts p.2]).getD k [] = [aInts (l.getD k ([], [])).1, aInts (l.getD k ([], [])).2] := by
  simp [List.getD, h]
theorem allR_take {l : List Cl} {k : Nat} (hk : k < l.length) (he : (l.take k).all clG = true) (h : clG (l.getD k ([], [])) = true) : (l.take (k + 1)).all clG = true := by
  rw [List.take_succ_eq_append_getElem hk, List.all_append, he]
  have e : l.getD k ([], []) = l[k] := by simp [List.getD, hk]
  rw [e] at h
  simp [h]
theorem cl_mem {l : List Cl} {k : Nat} (hk : k < l.length) : l.getD k ([], []) ∈ l := by simp [List.getD, hk]
theorem okCl_at {l : List Cl} (h : okCl l = true) {p : Cl} (hp : p ∈ l) : okInts p.1 = true ∧ okInts p.2 = true := by
  unfold okCl at h
  rw [Bool.and_eq_true] at h
  have := List.all_eq_true.1 h.2 p hp
  rwa [Bool.and_eq_true] at this
theorem encode_form (l : List Cl) (hl : okCl l = true) (h1 : l.length ≤ 65536) (h2 : l.all clG = false) : FnPure Try.prog 25 [aCls l] (.tup [.v (.slice none 0 0), .v (.int .i64 1)]) := by
  unfold aCls
  have g1 : ¬ ((65536 : Int) < (l.length : Int)) := by omega
  refine fn_sp TT_ok Try.func25 (c := _) rfl (by simp [Try.ntmps25]) (fun B hI0 hro => ?_)
  rw [Try.ntmps25]
  simp only [enumA]
  refine amGo PT71_ok (h := ?_)
  refine s_loop (J := fun i : {k : Nat // k ≤ l.length ∧ (l.take k).all clG = true} => ⟨38, [(0, .sl 2 (l.map fun p => [aInts p.1, aInts p.2])), (10, .sl 2 (l.map fun p => [aInts p.1, aInts p.2])), (11, .v (.int .i64 (l.length : Int))), (12, .v (.int .i64 (i.1 : Int)))], [], []⟩) (μ := fun i => l.length - i.1) ⟨0, Nat.zero_le _, rfl⟩ ?_ (fun ⟨k, hk, he⟩ => ?_)
  · (refine weak_id rfl ?_ ?_ <;> ((try simp only [List.mem_cons, List.not_mem_nil, or_false, forall_eq_or_imp, forall_eq]); (try simp (disch := omega) [i64w, *])))
  refine amGo PT71_ok (h := ?_)
  (focus ((with_reducible refine sp_cond (b := ?_) ?_ (fun hc => ?_) (fun hc => ?_)); rotate_left; (focus (first | rfl | (simp [lk, AS.ev]; rfl))); all_goals (try simp at hc)))
  · have hkk := hc
    clear hc
    obtain ⟨o1, o2⟩ := okCl_at hl (cl_mem hkk)
    obtain ⟨ts, cs, hp⟩ : ∃ ts cs, l.getD k ([], []) = (ts, cs) := ⟨_, _, rfl⟩
    rw [hp] at o1 o2
    dsimp only at o1 o2
    have hg : goodB 128 4096 ts cs = clG (l.getD k ([], [])) := by rw [hp]; rfl
    cases h3 : clG (l.getD k ([], []))
    · rw [h3] at hg
      refine amGo PT71_ok (h := ?_)
      refine amStr (h := ?_)
      refine amReg PT71_ok (h := ?_)
      refine amStr (h := ?_)
      refine amReg PT71_ok (h := ?_)
      refine amStr (h := ?_)
      ((refine post_ret (av := ?_) (by first | exact .inl rfl | exact .inr rfl) (show (Try.f25).results.toList = _ from by rw [Try.results25]) ?_ ?_); rotate_left; (focus (simp [retA, retL, ret1, lk, st, ldA, AV.cell]; rfl)); (try simp [*]))
    · rw [h3] at hg
      have ha := allR_take hkk he h3
      refine amGo PT71_ok (h := ?_)
      refine amStr (h := ?_)
      refine amReg PT71_ok (h := ?_)
      refine amStr (h := ?_)
      refine amReg PT71_ok (h := ?_)
      refine amStr (h := ?_)
      refine k_lp (⟨k + 1, by omega, ha⟩ : {k : Nat // k ≤ l.length ∧ (l.take k).all clG = true}) (by dsimp only; omega) ?_
      (refine weak_id rfl ?_ ?_ <;> ((try simp only [List.mem_cons, List.not_mem_nil, or_false, forall_eq_or_imp, forall_eq]); (try simp (disch := omega) [i64w, *])))
  · obtain rfl : k = l.length := by omega
    rw [List.take_length, h2] at he
    cases he
theorem encode_long1 (l : List Cl) (hl : l.length < 1000000000) (h1 : 65536 < l.length) : FnPure Try.prog 25 [aCls l] (.tup [.v (.slice none 0 0), .v (.int .i64 2)]) := by
  unfold aCls
  have g1 : ((65536 : Int) < (l.length : Int)) := by omega
  refine fn_sp TT_ok Try.func25 (c := _) rfl (by simp [Try.ntmps25]) (fun B hI0 hro => ?_)
  rw [Try.ntmps25]
  simp only [enumA]
  refine amGo PT71_ok (h := ?_)
  ((refine post_ret (av := ?_) (by first | exact .inl rfl | exact .inr rfl) (show (Try.f25).results.toList = _ from by rw [Try.results25]) ?_ ?_); rotate_left; (focus (simp [retA, retL, ret1, lk, st, ldA, AV.cell]; rfl)); (try simp [*]))
theorem pig : ∀ (n : Nat) (xs : List Int), xs.Nodup → (∀ x ∈ xs, 1 ≤ x ∧ x ≤ n) → xs.length ≤ n
  | 0, [], _, _ => Nat.le_refl _
  | 0, x :: xs, _, h => by have := h x (by simp); omega
  | n + 1, xs, hn, h => by
    by_cases hm : ((n + 1 : Nat) : Int) ∈ xs
    · have := pig n (xs.erase ((n + 1 : Nat) : Int)) (hn.erase _) (fun x hx => by
        have h1 := h x (List.mem_of_mem_erase hx)
        have h2 := (hn.mem_erase_iff.1 hx).1
        omega)
      rw [List.length_erase_of_mem hm] at this
      omega
    · have := pig n xs hn (fun x hx => by
        have h1 := h x hx
        have h2 : x ≠ ((n + 1 : Nat) : Int) := fun e => hm (e ▸ hx)
        omega)
      omega
theorem clG_facts {ts cs : List Int} (h : clG (ts, cs) = true) : ts.all okLit = true ∧ ts.length ≤ 128 ∧ cs.length ≤ 4096 ∧ (∀ i ∈ cs, 0 ≤ i ∧ i < 4096) ∧ ∀ i j, i < j → j < cs.length → cs.getD i 0 < cs.getD j 0 := by
  have hg : goodB 128 4096 ts cs = true := h
  have hl := good_lits hg
  refine ⟨List.all_eq_true.2 fun l hm => ?_, ?_, good_len hg (Int.le_refl _), good_mem hg, ?_⟩
  · obtain ⟨r1, r2, _⟩ := litOk_range (hl l hm)
    simp only [okLit, Bool.and_eq_true, decide_eq_true_eq]
    have h3 := litVar_abs (hl l hm)
    have := litVar_range l
    omega
  · have := pig 128 (ts.map litVar) (by
      rw [List.nodup_iff_pairwise_ne, List.pairwise_map, List.pairwise_iff_getElem]
      intro i j hi hj hij
      have := good_var (Int.le_refl _) hg hij hj
      simpa [List.getD, hi, hj] using this) (fun x hx => by
      obtain ⟨l, hm, rfl⟩ := List.mem_map.1 hx
      have := litVar_abs (hl l hm)
      omega)
    simpa using this
  · have h2 := (good_parts hg).2
    have key : ∀ d i, i + d + 1 < cs.length → cs.getD i 0 < cs.getD (i + d + 1) 0 := by
      intro d
      induction d with
      | zero =>
        intro i hi
        have h3 := h2 (i + 1) hi
        simp only [ixAsc, Bool.and_eq_true, decide_eq_true_eq, lastK_succ] at h3
        exact h3.1
      | succ d ih =>
        intro i hi
        have h3 := h2 (i + (d + 1) + 1) hi
        simp only [ixAsc, Bool.and_eq_true, decide_eq_true_eq, lastK_succ] at h3
        have h4 := ih i (by omega)
        have e : i + (d + 1) = i + d + 1 := rfl
        rw [e] at h3
        rw [e]
        omega
    intro i j hij hj
    have := key (j - i - 1) i (by omega)
    rwa [show i + (j - i - 1) + 1 = j by omega] at this
theorem putE_stop {b : List Int} (h : maxB < b.length) : ∀ l : List Cl, l.foldl putE b = b
  | [] => rfl
  | c :: l => by rw [List.foldl_cons, show putE b c = b from if_pos h, putE_stop h l]
theorem bytes_at (l : List Cl) (k : Nat) : bytesA l = (l.drop k).foldl putE ((l.take k).foldl putE (numB l.length)) := by
  unfold bytesA
  rw [← List.foldl_append, List.take_append_drop]
theorem wT_len {b ts : List Int} (h : ts.all okLit = true) (ht : ts.length ≤ 128) {K : Nat} (hK : maxB + 9 ≤ K) (hb : b.length + 9 ≤ K) : (wT b ts).length ≤ K := by
  unfold wT
  refine foldT_len hK ts _ (fun x hx => List.all_eq_true.1 h x hx) ?_
  have := numB_len9 (n := ts.length) (by omega)
  rw [List.length_append]; omega
theorem wC_len {b cs : List Int} (h : ∀ i ∈ cs, 0 ≤ i ∧ i < 4096) (hc : cs.length ≤ 4096) {K : Nat} (hK : maxB + 9 ≤ K) (hb : b.length + 9 ≤ K) : (wC b cs).length ≤ K := by
  unfold wC
  refine (foldC_len hK cs _ h ?_ (Int.le_refl 0)).1
  have := numB_len9 (n := cs.length) (by omega)
  simp only [List.length_append]; omega
theorem putE_len {b : List Int} {c : Cl} (hc : clG c = true) (hb : b.length ≤ maxB + 18) : (putE b c).length ≤ maxB + 18 := by
  obtain ⟨ts, cs⟩ := c
  obtain ⟨f1, f2, f3, f4, _⟩ := clG_facts hc
  unfold putE
  dsimp only
  split
  · exact hb
  · exact wC_len f4 f3 (by omega) (by have := wT_len (b := b) f1 f2 (K := maxB + 9) (Nat.le_refl _) (by omega); omega)
theorem foldE_len : ∀ (l : List Cl) (b : List Int), l.all clG = true → b.length ≤ maxB + 18 → (l.foldl putE b).length ≤ maxB + 18
  | [], _, _, h => h
  | c :: l, b, hl, h => by
    rw [List.all_cons, Bool.and_eq_true] at hl
    exact foldE_len l _ hl.2 (putE_len hl.1 h)
attribute [local simp] AV.ren renL
set_option maxHeartbeats 8000000 in
theorem write_lend (l : List Cl) (hl : okCl l = true) (hf : l.all clG = true) (h1 : l.length ≤ 65536) :
    ∃ c, (Go.Proofs.Try.f53).body = some c ∧ LendW Try.prog TT Go.Proofs.Try.f53 c [.ptr 7 0 0, aCls l, .bnd 54 [.ptr 7 0 0]] 7 90 91 (wO 90 0) (bO []) (wO 91 (bytesA l).length) (bO (bytesA l)) := by
  refine ⟨_, rfl, fun B hI0 hro => ?_⟩
  rw [Try.ntmps53, Try.results53]
  simp only [enumA]
  have hmax : maxB = 16777216 := rfl
  unfold wO bO aCls
  have hW := bytes_at l
  have hFL := fun k => foldE_len (l.take k) (numB l.length) (by rw [List.all_eq_true] at hf ⊢; exact fun x hx => hf x (List.mem_of_mem_take hx)) (by have := numB_len9 (n := l.length) (by omega); omega)
  obtain ⟨D, hD⟩ : ∃ D, bytesA l = D := ⟨_, rfl⟩
  rw [hD] at hW ⊢
  clear hD
  refine amStr (h := ?_)
  refine s_regionL ?_
  ((iterate 3 (((with_reducible refine spl_step TT_ok PT71_ok (id := 0) (σ' := ?_) ?_ ?_); rotate_left; (focus (simp [*]; rfl))))))
  obtain ⟨cn, hcn, hnum⟩ := number_lend 7 90 100 l.length [] (by omega) (by decide) (by decide) (by decide) (by decide) (by decide) (by decide) (by decide)
  rw [List.nil_append] at hnum
  obtain ⟨b0, hb0e⟩ : ∃ b0, numB l.length = b0 := ⟨_, rfl⟩
  rw [hb0e] at hnum hFL
  simp only [hb0e] at hW hFL
  refine spl_lendW TT_ok 7 90 100 (f := 80) (avs := [.ptr 7 0 0, .v (.int .i64 (l.length : Int))]) (L := [.ptr 7 0 0, .v (.int .i64 (l.length : Int))]) rfl rfl rfl rfl rfl (by kernel_rfl) Try.func80 hcn (by simp [Try.ntmps80]) (by decide) rfl rfl (fun q hq => by simpa [idsL, AV.ids] using hq) (fun q hq => by simpa [wO, idsLL, idsL, AV.ids] using hq) rfl (by simp) hnum (by decide) (by decide) ?_
  unfold wO bO
  clear hnum hcn hb0e
  (refine spl_eq (τ := ?_) ?_ ?_; rotate_left; (focus ((try simp only [AS.frz, List.map_cons, List.map_nil]); (try simp [frzV, frzO, frzC, List.filter]); rfl)))
  refine spl_nil ?_
  refine amStr (h := ?_)
  refine amReg PT71_ok (h := ?_)
  refine amStr (h := ?_)
  refine s_loopI hI0 (J := fun i : {k : Nat // k ≤ l.length} => ⟨28, [(0, .ptr 7 0 0), (2, .bnd 54 [.ptr 7 0 0]), (12, .sl 2 (l.map fun p => [aInts p.1, aInts p.2])), (13, .v (.int .i64 (l.length : Int))), (14, .v (.int .i64 (i.1 : Int)))], [(7, ⟨74, 1, [[.ref 100 0 ((l.take i.1).foldl putE b0).length]]⟩), (100, ⟨5, 1, ((l.take i.1).foldl putE b0).map fun x => [.v (.int .u8 x)]⟩)], [100, 7, 90]⟩) (μ := fun i => l.length - i.1) ⟨0, Nat.zero_le _⟩ ?_ (fun ⟨i, hie⟩ => ?_)
  · (refine weakI_of (fun i => i) ⟨rfl, ?_, ?_, ?_⟩ ?_ <;> ((try simp only [List.mem_cons, List.not_mem_nil, or_false, forall_eq_or_imp, forall_eq]); (try simp (disch := omega) [lk, AV.ids, idsL, idsLL, AV.ren, renL, renLL, i64w, *])))
  dsimp only
  have hbl := hFL i
  have hWi := hW i
  have hsuc := fun hk => foldl_take putE b0 (xs := l) (k := i) hk
  obtain ⟨d, hd⟩ : ∃ d, (l.take i).foldl putE b0 = d := ⟨_, rfl⟩
  rw [hd] at hWi hbl hsuc
  rw [hd]
  clear hd hW hFL
  refine amStr (h := ?_)
  refine amReg PT71_ok (h := ?_)
  refine amStr (h := ?_)
  (focus ((with_reducible refine sp_cond (b := ?_) ?_ (fun hc => ?_) (fun hc => ?_)); rotate_left; (focus (first | rfl | (simp [lk, AS.ev]; rfl))); all_goals (try simp at hc)))
  · have hii := hc
    clear hc
    have hsuc2 := hsuc hii
    clear hsuc
    have hx1 : l[i] = l.getD i ([], []) := by simp [List.getD, hii]
    rw [hx1] at hsuc2
    have hcg := List.all_eq_true.1 hf _ (cl_mem hii)
    obtain ⟨o1, o2⟩ := okCl_at hl (cl_mem hii)
    obtain ⟨ts, cs, hp⟩ : ∃ ts cs, l.getD i ([], []) = (ts, cs) := ⟨_, _, rfl⟩
    rw [hp] at o1 o2 hcg hsuc2
    dsimp only at o1 o2
    obtain ⟨f1, f2, f3, f4, f5⟩ := clG_facts hcg
    refine amStr (h := ?_)
    refine s_regionL ?_
    ((iterate 2 (((with_reducible refine spl_step TT_ok PT71_ok (id := 0) (σ' := ?_) ?_ ?_); rotate_left; (focus (simp [*]; rfl))))))
    (((with_reducible refine spl_step TT_ok PT71_ok (id := 201) (σ' := ?_) ?_ ?_); rotate_left; (focus (simp [*]; rfl))))
    ((iterate 1 (((with_reducible refine spl_step TT_ok PT71_ok (id := 0) (σ' := ?_) ?_ ?_); rotate_left; (focus (simp [*]; rfl))))))
    refine spl_nil ?_
    refine amStr (h := ?_)
    refine amReg PT71_ok (h := ?_)
    refine amStr (h := ?_)
    by_cases hmx : maxB < d.length
    · have hm1 : (16777216 : Int) < (d.length : Int) := by omega
      have hDd : D = d := by rw [hWi]; exact putE_stop hmx _
      subst hDd
      clear hWi hsuc2
      refine amStr (h := ?_)
      refine ⟨.inr rfl, _, rfl, rfl, ?_⟩
      (refine weakI_of (fun q => if q = 91 then 100 else q) ⟨rfl, ?_, ?_, ?_⟩ ?_ <;> ((try simp only [List.mem_cons, List.not_mem_nil, or_false, forall_eq_or_imp, forall_eq]); (try simp (disch := omega) [lk, AV.ids, idsL, idsLL, AV.ren, renL, renLL, i64w, *])))
    · have hm1 : ¬ ((16777216 : Int) < (d.length : Int)) := by omega
      have hput : putE d (ts, cs) = wC (wT d ts) cs := if_neg hmx
      rw [hput] at hsuc2
      refine amStr (h := ?_)
      refine s_regionL ?_
      ((iterate 2 (((with_reducible refine spl_step TT_ok PT71_ok (id := 0) (σ' := ?_) ?_ ?_); rotate_left; (focus (simp [*]; rfl))))))
      obtain ⟨cn2, hcn2, hcl⟩ := claim_lend ts cs d f1 f2 (by omega) f3 f4 f5
      obtain ⟨d2, hd2⟩ : ∃ d2, wC (wT d ts) cs = d2 := ⟨_, rfl⟩
      rw [hd2] at hcl hsuc2
      refine spl_lendW TT_ok 7 100 101 (f := 54) (avs := [.agg [aInts ts, aInts cs]]) (L := [.ptr 7 0 0, .agg [aInts ts, aInts cs]]) rfl rfl rfl rfl rfl (by kernel_rfl) Try.func54 hcn2 (by simp [Try.ntmps54]) (by decide) rfl rfl (fun q hq => by simpa [idsL, AV.ids] using hq) (fun q hq => by simpa [wO, idsLL, idsL, AV.ids] using hq) (ids_bO d) (by simp) hcl (by decide) (by decide) ?_
      unfold wO bO
      clear hcl hcn2 hd2
      (refine spl_eq (τ := ?_) ?_ ?_; rotate_left; (focus ((try simp only [AS.frz, List.map_cons, List.map_nil]); (try simp [frzV, frzO, frzC, List.filter]); rfl)))
      refine spl_nil ?_
      have hwi : IntKind.i64.wrap ((i : Int) + 1) = (i : Int) + 1 := i64s i (by omega)
      refine amStr (h := ?_)
      refine amReg PT71_ok (h := ?_)
      refine amStr (h := ?_)
      refine ki_lp (⟨i + 1, by omega⟩ : {k : Nat // k ≤ l.length}) (by first | omega | (dsimp only; omega)) ?_
      dsimp only
      rw [hsuc2]
      (refine weakI_of (fun q => if q = 100 then 101 else q) ⟨rfl, ?_, ?_, ?_⟩ ?_ <;> ((try simp only [List.mem_cons, List.not_mem_nil, or_false, forall_eq_or_imp, forall_eq]); (try simp (disch := omega) [lk, AV.ids, idsL, idsLL, AV.ren, renL, renLL, i64w, *])))
  · obtain rfl : i = l.length := by omega
    clear hc hsuc
    have hDd : D = d := by rw [hWi, List.drop_length]; rfl
    subst hDd
    clear hWi
    refine amStr (h := ?_)
    refine ⟨.inl rfl, _, rfl, rfl, ?_⟩
    (refine weakI_of (fun q => if q = 91 then 100 else q) ⟨rfl, ?_, ?_, ?_⟩ ?_ <;> ((try simp only [List.mem_cons, List.not_mem_nil, or_false, forall_eq_or_imp, forall_eq]); (try simp (disch := omega) [lk, AV.ids, idsL, idsLL, AV.ren, renL, renLL, i64w, *])))
theorem numB_pos (n : Nat) : 0 < (numB n).length := by
  by_cases h : n < 128
  · rw [numB_lt h]; simp
  · rw [numB_ge h]; simp
theorem foldT_ge : ∀ (ts b : List Int), b.length ≤ (ts.foldl putT b).length
  | [], _ => Nat.le_refl _
  | l :: ts, b => by
    rw [List.foldl_cons]
    refine Nat.le_trans ?_ (foldT_ge ts _)
    unfold putT; split <;> simp
theorem foldC_ge : ∀ (cs : List Int) (s : List Int × Int), s.1.length ≤ (cs.foldl putC s).1.length
  | [], _ => Nat.le_refl _
  | l :: ts, s => by
    rw [List.foldl_cons]
    refine Nat.le_trans ?_ (foldC_ge ts _)
    unfold putC; split <;> simp
theorem foldE_ge : ∀ (l : List Cl) (b : List Int), b.length ≤ (l.foldl putE b).length
  | [], _ => Nat.le_refl _
  | c :: l, b => by
    rw [List.foldl_cons]
    refine Nat.le_trans ?_ (foldE_ge l _)
    unfold putE; split
    · exact Nat.le_refl _
    · unfold wC wT
      refine Nat.le_trans ?_ (foldC_ge _ _)
      dsimp only
      rw [List.length_append]
      have := foldT_ge c.1 (b ++ numB c.1.length)
      rw [List.length_append] at this
      omega
theorem bytesA_pos (l : List Cl) : 0 < (bytesA l).length := Nat.lt_of_lt_of_le (numB_pos l.length) (foldE_ge l _)
theorem within_En (b : List Int) : Within (.tup [.ref 0 0 b.length, .v (.int .i64 0)]) [(0, bO b)] [0] := by
  refine ⟨fun k hk => by simpa [AV.ids, idsL] using hk, fun k ob hk => ?_⟩
  simp only [lk] at hk
  split at hk
  · cases hk
    exact ⟨by simp; omega, fun q hq => by rw [show idsLL (bO b).xs = [] from ids_bO b] at hq; cases hq⟩
  · cases hk
set_option maxHeartbeats 8000000 in
theorem encode_obj (l : List Cl) (hl : okCl l = true) (hf : l.all clG = true) (h1 : l.length ≤ 65536) (h2 : (bytesA l).length ≤ maxB) : FnObj Try.prog 25 [aCls l] (.tup [.ref 0 0 (bytesA l).length, .v (.int .i64 0)]) [(0, bO (bytesA l))] [0] := by
  have hmax : maxB = 16777216 := rfl
  have g1 : ¬ ((65536 : Int) < (l.length : Int)) := by omega
  refine fn_obj TT_ok Try.func25 (c := _) rfl (by simp [Try.ntmps25]) (within_En _) (fun B hI0 hro => ?_)
  rw [Try.ntmps25]
  unfold aCls
  simp only [enumA]
  refine amGo PT71_ok (h := ?_)
  refine s_loop (J := fun i : {k : Nat // k ≤ l.length} => ⟨38, [(0, .sl 2 (l.map fun p => [aInts p.1, aInts p.2])), (10, .sl 2 (l.map fun p => [aInts p.1, aInts p.2])), (11, .v (.int .i64 (l.length : Int))), (12, .v (.int .i64 (i.1 : Int)))], [], []⟩) (μ := fun i => l.length - i.1) ⟨0, Nat.zero_le _⟩ ?_ (fun ⟨k, hk⟩ => ?_)
  · (refine weak_id rfl ?_ ?_ <;> ((try simp only [List.mem_cons, List.not_mem_nil, or_false, forall_eq_or_imp, forall_eq]); (try simp (disch := omega) [i64w, *])))
  refine amGo PT71_ok (h := ?_)
  (focus ((with_reducible refine sp_cond (b := ?_) ?_ (fun hc => ?_) (fun hc => ?_)); rotate_left; (focus (first | rfl | (simp [lk, AS.ev]; rfl))); all_goals (try simp at hc)))
  · have hkk := hc
    clear hc
    obtain ⟨o1, o2⟩ := okCl_at hl (cl_mem hkk)
    obtain ⟨ts, cs, hp⟩ : ∃ ts cs, l.getD k ([], []) = (ts, cs) := ⟨_, _, rfl⟩
    rw [hp] at o1 o2
    dsimp only at o1 o2
    have hg : goodB 128 4096 ts cs = true := by have := List.all_eq_true.1 hf _ (cl_mem hkk); rw [hp] at this; exact this
    refine amGo PT71_ok (h := ?_)
    refine amStr (h := ?_)
    refine amReg PT71_ok (h := ?_)
    refine amStr (h := ?_)
    refine amReg PT71_ok (h := ?_)
    refine amStr (h := ?_)
    refine k_lp (⟨k + 1, by omega⟩ : {k : Nat // k ≤ l.length}) (by dsimp only; omega) ?_
    (refine weak_id rfl ?_ ?_ <;> ((try simp only [List.mem_cons, List.not_mem_nil, or_false, forall_eq_or_imp, forall_eq]); (try simp (disch := omega) [i64w, *])))
  · obtain rfl : k = l.length := by omega
    clear hc
    refine amStr (h := ?_)
    refine s_regionL ?_
    ((iterate 1 (((with_reducible refine spl_step TT_ok PT71_ok (id := 0) (σ' := ?_) ?_ ?_); rotate_left; (focus (simp [*]; rfl))))))
    (((with_reducible refine spl_step TT_ok PT71_ok (id := 7) (σ' := ?_) ?_ ?_); rotate_left; (focus (simp [*]; rfl))))
    ((iterate 1 (((with_reducible refine spl_step TT_ok PT71_ok (id := 0) (σ' := ?_) ?_ ?_); rotate_left; (focus (simp [*]; rfl))))))
    refine spl_nil ?_
    refine amStr (h := ?_)
    refine s_cnil 7 0 0 90 5 1 rfl rfl (by simp) ?_ (by decide)
    refine amStr (h := ?_)
    refine s_regionL ?_
    ((iterate 4 (((with_reducible refine spl_step TT_ok PT71_ok (id := 0) (σ' := ?_) ?_ ?_); rotate_left; (focus (simp [*]; rfl))))))
    obtain ⟨cn, hcn, hw⟩ := write_lend l hl hf h1
    obtain ⟨D, hD⟩ : ∃ D, bytesA l = D := ⟨_, rfl⟩
    have hpos := bytesA_pos l
    rw [hD] at hw h2 hpos ⊢
    clear hD
    have hpos2 : 0 < (D.map fun x => [AV.v (.int .u8 x)]).length := by rw [List.length_map]; exact hpos
    refine spl_lendW TT_ok 7 90 91 (f := 53) (avs := [.ptr 7 0 0, aCls l, .bnd 54 [.ptr 7 0 0]]) (L := [.ptr 7 0 0, aCls l, .bnd 54 [.ptr 7 0 0]]) rfl rfl rfl rfl rfl (by kernel_rfl) Try.func53 hcn (by simp [Try.ntmps53]) (by decide) rfl rfl (fun q hq => by simpa [idsL, AV.ids, aCls] using hq) (fun q hq => by simpa [wO, idsLL, idsL, AV.ids] using hq) rfl (by simp) hw (by decide) (by decide) ?_
    unfold wO bO
    clear hw hcn
    (refine spl_eq (τ := ?_) ?_ ?_; rotate_left; (focus ((try simp only [AS.frz, List.map_cons, List.map_nil]); (try simp [frzV, frzO, frzC, List.filter]); rfl)))
    refine spl_nil ?_
    have g2 : ¬ ((16777216 : Int) < (D.length : Int)) := by omega
    refine amStr (h := ?_)
    refine amReg PT71_ok (h := ?_)
    refine amStr (h := ?_)
    refine s_regionL ?_
    ((iterate 4 (((with_reducible refine spl_step TT_ok PT71_ok (id := 0) (σ' := ?_) ?_ ?_); rotate_left; (focus (simp [*]; rfl))))))
    refine spl_call TT_ok rfl rfl rfl (by kernel_rfl) Try.func55 rfl (avs := [.ref 91 0 D.length]) (cs := []) rfl rfl (by simp [Try.ntmps55]) fun B1 hI1 hro1 => ?_
    rw [Try.ntmps55, Try.results55]
    simp only [enumA, List.append_nil]
    refine amStr (h := ?_)
    refine amReg PT71_ok (h := ?_)
    refine amStr (h := ?_)
    refine s_regionL ?_
    ((iterate 5 (((with_reducible refine spl_step TT_ok PT71_ok (id := 0) (σ' := ?_) ?_ ?_); rotate_left; (focus (simp [*]; rfl))))))
    refine spl_stepX TT_ok PT71_ok (id := 8) (σ' := ?_) ?_ ?_
    rotate_left
    · simp [stepX, coreX, cClip, *]
      rfl
    ((iterate 1 (((with_reducible refine spl_step TT_ok PT71_ok (id := 0) (σ' := ?_) ?_ ?_); rotate_left; (focus (simp [*]; rfl))))))
    refine spl_nil ?_
    refine amStr (h := ?_)
    refine ⟨.inr rfl, _, rfl, ?_⟩
    (refine spl_eq (τ := ?_) ?_ ?_; rotate_left; (focus ((try simp only [AS.frz, List.map_cons, List.map_nil]); (try simp [frzV, frzO, frzC, List.filter]); rfl)))
    ((iterate 2 (((with_reducible refine spl_step TT_ok PT71_ok (id := 0) (σ' := ?_) ?_ ?_); rotate_left; (focus (simp [*]; rfl))))))
    refine spl_nil ?_
    refine amStr (h := ?_)
    refine post_obj (av := .tup [.ref 8 0 D.length, .v (.int .i64 0)]) (.inr rfl) (by rw [Try.results25]) ?_ (fun _ => 8) rfl (fun k ob hk => ?_) (fun k ob k' ob' hk hk' _ => ?_)
    · simp [retA, retL, ret1, lk, ldA, AV.cell]
    · simp only [lk] at hk
      split at hk <;> cases hk
      simp [lk, bO]
    · simp only [lk] at hk hk'
      split at hk <;> cases hk
      split at hk' <;> cases hk'
      omega
set_option maxHeartbeats 8000000 in
theorem encode_long2 (l : List Cl) (hl : okCl l = true) (hf : l.all clG = true) (h1 : l.length ≤ 65536) (h2 : maxB < (bytesA l).length) : FnPure Try.prog 25 [aCls l] (.tup [.v (.slice none 0 0), .v (.int .i64 2)]) := by
  have hmax : maxB = 16777216 := rfl
  have g1 : ¬ ((65536 : Int) < (l.length : Int)) := by omega
  unfold aCls
  refine fn_sp TT_ok Try.func25 (c := _) rfl (by simp [Try.ntmps25]) (fun B hI0 hro => ?_)
  rw [Try.ntmps25]
  simp only [enumA]
  refine amGo PT71_ok (h := ?_)
  refine s_loop (J := fun i : {k : Nat // k ≤ l.length} => ⟨38, [(0, .sl 2 (l.map fun p => [aInts p.1, aInts p.2])), (10, .sl 2 (l.map fun p => [aInts p.1, aInts p.2])), (11, .v (.int .i64 (l.length : Int))), (12, .v (.int .i64 (i.1 : Int)))], [], []⟩) (μ := fun i => l.length - i.1) ⟨0, Nat.zero_le _⟩ ?_ (fun ⟨k, hk⟩ => ?_)
  · (refine weak_id rfl ?_ ?_ <;> ((try simp only [List.mem_cons, List.not_mem_nil, or_false, forall_eq_or_imp, forall_eq]); (try simp (disch := omega) [i64w, *])))
  refine amGo PT71_ok (h := ?_)
  (focus ((with_reducible refine sp_cond (b := ?_) ?_ (fun hc => ?_) (fun hc => ?_)); rotate_left; (focus (first | rfl | (simp [lk, AS.ev]; rfl))); all_goals (try simp at hc)))
  · have hkk := hc
    clear hc
    obtain ⟨o1, o2⟩ := okCl_at hl (cl_mem hkk)
    obtain ⟨ts, cs, hp⟩ : ∃ ts cs, l.getD k ([], []) = (ts, cs) := ⟨_, _, rfl⟩
    rw [hp] at o1 o2
    dsimp only at o1 o2
    have hg : goodB 128 4096 ts cs = true := by have := List.all_eq_true.1 hf _ (cl_mem hkk); rw [hp] at this; exact this
    refine amGo PT71_ok (h := ?_)
    refine amStr (h := ?_)
    refine amReg PT71_ok (h := ?_)
    refine amStr (h := ?_)
    refine amReg PT71_ok (h := ?_)
    refine amStr (h := ?_)
    refine k_lp (⟨k + 1, by omega⟩ : {k : Nat // k ≤ l.length}) (by dsimp only; omega) ?_
    (refine weak_id rfl ?_ ?_ <;> ((try simp only [List.mem_cons, List.not_mem_nil, or_false, forall_eq_or_imp, forall_eq]); (try simp (disch := omega) [i64w, *])))
  · obtain rfl : k = l.length := by omega
    clear hc
    refine amStr (h := ?_)
    refine s_regionL ?_
    ((iterate 1 (((with_reducible refine spl_step TT_ok PT71_ok (id := 0) (σ' := ?_) ?_ ?_); rotate_left; (focus (simp [*]; rfl))))))
    (((with_reducible refine spl_step TT_ok PT71_ok (id := 7) (σ' := ?_) ?_ ?_); rotate_left; (focus (simp [*]; rfl))))
    ((iterate 1 (((with_reducible refine spl_step TT_ok PT71_ok (id := 0) (σ' := ?_) ?_ ?_); rotate_left; (focus (simp [*]; rfl))))))
    refine spl_nil ?_
    refine amStr (h := ?_)
    refine s_cnil 7 0 0 90 5 1 rfl rfl (by simp) ?_ (by decide)
    refine amStr (h := ?_)
    refine s_regionL ?_
    ((iterate 4 (((with_reducible refine spl_step TT_ok PT71_ok (id := 0) (σ' := ?_) ?_ ?_); rotate_left; (focus (simp [*]; rfl))))))
    obtain ⟨cn, hcn, hw⟩ := write_lend l hl hf h1
    obtain ⟨D, hD⟩ : ∃ D, bytesA l = D := ⟨_, rfl⟩
    rw [hD] at hw h2
    clear hD
    refine spl_lendW TT_ok 7 90 91 (f := 53) (avs := [.ptr 7 0 0, aCls l, .bnd 54 [.ptr 7 0 0]]) (L := [.ptr 7 0 0, aCls l, .bnd 54 [.ptr 7 0 0]]) rfl rfl rfl rfl rfl (by kernel_rfl) Try.func53 hcn (by simp [Try.ntmps53]) (by decide) rfl rfl (fun q hq => by simpa [idsL, AV.ids, aCls] using hq) (fun q hq => by simpa [wO, idsLL, idsL, AV.ids] using hq) rfl (by simp) hw (by decide) (by decide) ?_
    unfold wO bO
    clear hw hcn
    (refine spl_eq (τ := ?_) ?_ ?_; rotate_left; (focus ((try simp only [AS.frz, List.map_cons, List.map_nil]); (try simp [frzV, frzO, frzC, List.filter]); rfl)))
    refine spl_nil ?_
    have g2 : (16777216 : Int) < (D.length : Int) := by omega
    refine amStr (h := ?_)
    refine amReg PT71_ok (h := ?_)
    refine amStr (h := ?_)
    refine amReg PT71_ok (h := ?_)
    refine amStr (h := ?_)
    ((refine post_ret (av := ?_) (by first | exact .inl rfl | exact .inr rfl) (show (Try.f25).results.toList = _ from by rw [Try.results25]) ?_ ?_); rotate_left; (focus (simp [retA, retL, ret1, lk, st, ldA, AV.cell]; rfl)); (try simp [*]))
def aB (xs : List Int) : AV := .sl 1 (xs.map fun x => [.v (.int .u8 x)])
theorem read_bytes {σ : AS} {B : Base} {G : Gh} {w : World} {a : Act} {T : Nat → Nat → Option Value} (hr : R B G σ w a) (hT : ReadT G w σ.objs T) {k : Nat} {xs : List Int} (hk : lk σ.objs k = some (bO xs)) {v : Value} (hv : Rv G (.ref k 0 xs.length) v) : Rv (G0 T) (aB xs) v := by
  have hsh : σ.shut1 (fun _ => true) (.ref k 0 xs.length) = some (aB xs) := by
    simp only [AS.shut1, hk, bO]
    have e1 : ((xs.map fun x => [AV.v (.int .u8 x)]).drop 0).take xs.length = xs.map fun x => [AV.v (.int .u8 x)] := by
      rw [List.drop_zero]; exact take_map_len _ _
    rw [e1, if_pos ⟨trivial, Nat.one_pos, by rw [List.length_map]; omega, ids_bO _⟩]
    rfl
  exact shut1_ok hr (T := T) hT.st (fun k ob b x p u _ hk hl hc => hT.ob k ob b x p u hk hl hc) (L := fun _ => none) hv hsh
theorem Rv.tupM {G G' : Gh} {cs ds : List AV} {v : Value} (h : Rv G (.tup cs) v) (hl : ds.length = cs.length) (hd : ∀ i u, i < cs.length → Rv G (cs.getD i .any) u → Rv G' (ds.getD i .any) u) : Rv G' (.tup ds) v := by
  cases h with
  | tup _ us h1 h2 => exact .tup ds us (by omega) fun i hi => hd i _ (by omega) (h2 i (by omega))
def encA (l : List Cl) : AV :=
  if 65536 < l.length then .tup [.v (.slice none 0 0), .v (.int .i64 2)]
  else if l.all clG = false then .tup [.v (.slice none 0 0), .v (.int .i64 1)]
  else if maxB < (bytesA l).length then .tup [.v (.slice none 0 0), .v (.int .i64 2)]
  else .tup [aB (bytesA l), .v (.int .i64 0)]
theorem encode_p (l : List Cl) (hl : okCl l = true) : FnPure Try.prog 25 [aCls l] (encA l) := by
  unfold encA
  split
  · have h := hl
    unfold okCl at h
    rw [Bool.and_eq_true, decide_eq_true_eq] at h
    exact encode_long1 l (by omega) (by omega)
  · split
    · exact encode_form l hl (by omega) (by assumption)
    · have hf : l.all clG = true := by simpa using (by assumption : ¬ l.all clG = false)
      split
      · exact encode_long2 l hl hf (by omega) (by assumption)
      · refine obj_pure (encode_obj l hl hf (by omega) (by omega)) (fun B G n w a v T hr hT hv => ?_)
        refine hv.tupM rfl fun i u hi hu => ?_
        match i, hi with
        | 0, _ => exact read_bytes hr hT (k := 0) (by simp [lk]) hu
        | 1, _ => exact hu.isV (by rfl)
end Go.Proofs.Ythdjgcjpolpgdaa
