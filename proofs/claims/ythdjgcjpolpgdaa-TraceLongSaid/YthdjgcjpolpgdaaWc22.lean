/- trace.writer.claim: a claim is written; no condition. -/
import Derived.Test.YthdjgcjpolpgdaaNu22
import Derived.Test.YthdjgcjpolpgdaaWa
namespace Go.Proofs.Ythdjgcjpolpgdaa
set_option linter.unusedVariables false
set_option linter.unusedSimpArgs false
set_option linter.unusedSectionVars false
open Go.RowKit
attribute [local simp] List.getD_cons_zero List.getD_cons_succ List.getD_nil undef gvars runL runE effA stepA dstOk wantA core lk st dl AS.ev AS.evs AS.put AS.upd updO updI nxt cPick cAlloc cBox cBuild cBuildS cLoad cStore cNil plainOf cBin cNilS isNilS nilA cUn cConvX cConvB cConv bytesOf rowB cMake cSlice slA idxA cFA cF cIA cIX cIS cI cExt cLen cApp cMM cFun cCall lenA lenM isNilM nilM cNilM cMakeM hintB cMapK cLook foundR lookR cUpd putM cDel delM findA isKeyB Instr.sameNow AS.entry AS.bound AS.callee sc1 sc2 ixOk ldA AV.flat AV.cell AV.cells Value.oneCell' fillA spl chunk zeros AS.parts AS.rows AS.shut AS.shut1 AS.shut2 AS.shutL AS.shutM AV.ids idsL idsLL eqAll bndA AV.scalar AV.scalar1 AV.isV Ef.app Ef.pk ptOf pntO wrO wr
attribute [-simp] List.getD_eq_getElem?_getD
set_option maxRecDepth 100000
def litN (l : Int) : Nat := (if 0 < l then 2 * l else 1 - 2 * l).toNat
def maxB : Nat := 16777216
def putT (b : List Int) (l : Int) : List Int := if maxB < b.length then b else b ++ numB (litN l)
def wT (b ts : List Int) : List Int := ts.foldl putT (b ++ numB ts.length)
def putC (s : List Int × Int) (i : Int) : List Int × Int := if maxB < s.1.length then s else (s.1 ++ numB (i - s.2).toNat, i)
def wC (b cs : List Int) : List Int := (cs.foldl putC (b ++ numB cs.length, 0)).1
theorem numB_len9 {n : Nat} (h : n < 4611686018427387904) : (numB n).length ≤ 9 := by
  have h2 : (128 : Nat) ^ (8 + 1) = 9223372036854775808 := by decide
  exact numB_len 8 n (by omega)
theorem foldl_take {α β : Type} (f : β → α → β) (b : β) {xs : List α} {k : Nat} (hk : k < xs.length) : (xs.take (k + 1)).foldl f b = f ((xs.take k).foldl f b) xs[k] := by
  rw [List.take_succ_eq_append_getElem hk, List.foldl_append]; rfl
def okLit (l : Int) : Bool := decide (-128 ≤ l) && decide (l ≤ 128)
theorem litN_le {l : Int} (h1 : -128 ≤ l) (h2 : l ≤ 128) : litN l ≤ 257 := by unfold litN; split <;> omega
theorem putT_len {b : List Int} {l : Int} {K : Nat} (hK : maxB + 9 ≤ K) (hb : b.length ≤ K) (h1 : -128 ≤ l) (h2 : l ≤ 128) : (putT b l).length ≤ K := by
  unfold putT
  split
  · exact hb
  · have := numB_len9 (n := litN l) (by have := litN_le h1 h2; omega)
    rw [List.length_append]; omega
theorem foldT_len {K : Nat} (hK : maxB + 9 ≤ K) : ∀ (ts : List Int) (b : List Int), (∀ x ∈ ts, okLit x = true) → b.length ≤ K → (ts.foldl putT b).length ≤ K
  | [], _, _, h => h
  | l :: ts, b, ho, h => by
    have hl := ho l (by simp)
    unfold okLit at hl
    simp only [Bool.and_eq_true, decide_eq_true_eq] at hl
    exact foldT_len hK ts _ (fun x hx => ho x (List.mem_cons_of_mem _ hx)) (putT_len hK h hl.1 hl.2)
theorem s_cutK {P : Program} {B : Base} {x y : Code} {σ : AS} {Q : Exit → AS → Prop} (S : AS) (h : SP P B x σ (fun e τ => e = .normal ∧ ∀ c Q', SP P B c S Q' → SP P B c τ Q')) (k : SP P B y S Q) : SP P B x σ (Kseq P B y Q) :=
  sp_mono h fun e τ h => by obtain ⟨rfl, h⟩ := h; exact k_seq (h y Q k)
theorem s_weakI {P : Program} {B : Base} {c : Code} {σ : AS} {Q : Exit → AS → Prop} {I : List Nat} (hI : B.I0 = I) (τ : AS) (h : WeakI I σ τ) (k : SP P B c τ Q) : SP P B c σ Q := sp_weak (by rw [hI]; exact h) k
theorem putT_stop {b : List Int} (h : maxB < b.length) : ∀ ts : List Int, ts.foldl putT b = b
  | [] => rfl
  | l :: ts => by rw [List.foldl_cons, show putT b l = b from if_pos h, putT_stop h ts]
theorem wT_at (b ts : List Int) (k : Nat) : wT b ts = (ts.drop k).foldl putT ((ts.take k).foldl putT (b ++ numB ts.length)) := by
  unfold wT
  rw [← List.foldl_append, List.take_append_drop]
theorem putC_stop {s : List Int × Int} (h : maxB < s.1.length) : ∀ cs : List Int, cs.foldl putC s = s
  | [] => rfl
  | i :: cs => by rw [List.foldl_cons, show putC s i = s from if_pos h, putC_stop h cs]
theorem wC_at (b cs : List Int) (k : Nat) : wC b cs = ((cs.drop k).foldl putC ((cs.take k).foldl putC (b ++ numB cs.length, 0))).1 := by
  unfold wC
  rw [← List.foldl_append, List.take_append_drop]
theorem foldC_len {K : Nat} (hK : maxB + 9 ≤ K) : ∀ (cs : List Int) (s : List Int × Int), (∀ i ∈ cs, 0 ≤ i ∧ i < 4096) → s.1.length ≤ K → 0 ≤ s.2 → (cs.foldl putC s).1.length ≤ K ∧ 0 ≤ (cs.foldl putC s).2
  | [], _, _, h, h2 => ⟨h, h2⟩
  | i :: cs, s, ho, h, h2 => by
    have hi := ho i (by simp)
    rw [List.foldl_cons]
    refine foldC_len hK cs _ (fun x hx => ho x (List.mem_cons_of_mem _ hx)) ?_ ?_
    · unfold putC
      split
      · exact h
      · have := numB_len9 (n := (i - s.2).toNat) (by omega)
        simp only [List.length_append]
        omega
    · unfold putC
      split
      · exact h2
      · exact hi.1
theorem foldC_last (b cs : List Int) : ∀ k, k ≤ cs.length → ((cs.take k).foldl putC (b, 0)).1.length ≤ maxB → ((cs.take k).foldl putC (b, 0)).2 = if k = 0 then 0 else cs.getD (k - 1) 0
  | 0, _, _ => rfl
  | k + 1, hk, h => by
    have hkk : k < cs.length := by omega
    rw [foldl_take putC (b, 0) hkk] at h ⊢
    rw [if_neg (by omega), Nat.add_sub_cancel]
    have e : cs.getD k 0 = cs[k] := by simp [List.getD, hkk]
    rw [e]
    unfold putC at h ⊢
    split at h
    · omega
    · rename_i hn
      rw [if_neg hn]
attribute [local simp] AV.ren renL
set_option maxHeartbeats 8000000 in
theorem claim_lend (ts cs b : List Int) (ht : ts.all okLit = true) (htl : ts.length ≤ 128) (hb : b.length ≤ maxB) (hcl : cs.length ≤ 4096) (hcs : ∀ i ∈ cs, 0 ≤ i ∧ i < 4096) (hasc : ∀ i j, i < j → j < cs.length → cs.getD i 0 < cs.getD j 0) :
    ∃ c, (Go.Proofs.Try.f54).body = some c ∧ LendW Try.prog TT Go.Proofs.Try.f54 c [.ptr 7 0 0, .agg [aInts ts, aInts cs]] 7 100 101 (wO 100 b.length) (bO b) (wO 101 (wC (wT b ts) cs).length) (bO (wC (wT b ts) cs)) := by
  refine ⟨_, rfl, fun B hI0 hro => ?_⟩
  rw [Try.ntmps54, Try.results54]
  simp only [enumA]
  unfold wO bO
  have hmax : maxB = 16777216 := rfl
  refine amStr (h := ?_)
  refine s_regionL ?_
  (((with_reducible refine spl_step TT_ok PT1_ok (id := 201) (σ' := ?_) ?_ ?_); rotate_left; (focus (simp [*]; rfl))))
  (((with_reducible refine spl_step TT_ok PT1_ok (id := 202) (σ' := ?_) ?_ ?_); rotate_left; (focus (simp [*]; rfl))))
  refine spl_nil ?_
  refine amStr (h := ?_)
  have hW := wT_at b ts
  obtain ⟨D, hD⟩ : ∃ D, wT b ts = D := ⟨_, rfl⟩
  rw [hD] at hW ⊢
  refine s_cutK ⟨16, [(2, .ptr 201 0 0), (3, .ptr 202 0 0)], [(7, ⟨74, 1, [[.ref 301 0 D.length]]⟩), (301, ⟨5, 1, D.map fun x => [.v (.int .u8 x)]⟩), (201, ⟨72, 1, [[.ptr 7 0 0]]⟩), (202, ⟨27, 2, [[aInts ts, aInts cs]]⟩)], [301, 202, 201, 7, 100]⟩ ?_ ?_
  · refine s_regionL ?_
    ((iterate 5 (((with_reducible refine spl_step TT_ok PT1_ok (id := 0) (σ' := ?_) ?_ ?_); rotate_left; (focus (simp [*]; rfl))))))
    refine spl_call TT_ok rfl rfl rfl (by kernel_rfl) Try.func81 rfl (avs := [.ptr 7 0 0, aInts ts, .bnd 82 [.ptr 7 0 0]]) (cs := []) rfl rfl (by simp [Try.ntmps81]) fun B1 hI1 hro1 => ?_
    replace hI1 : B1.I0 = [202, 201, 7, 100] := hI1
    rw [Try.ntmps81, Try.results81]
    simp only [enumA, List.append_nil]
    refine amStr (h := ?_)
    refine s_regionL ?_
    ((iterate 3 (((with_reducible refine spl_step TT_ok PT1_ok (id := 0) (σ' := ?_) ?_ ?_); rotate_left; (focus (simp [*]; rfl))))))
    obtain ⟨cn, hcn, hnum⟩ := number_lend 7 100 301 ts.length b (by omega) (by omega) (by decide) (by decide) (by decide) (by decide) (by decide) (by decide)
    have hb0 : (b ++ numB ts.length).length ≤ maxB + 9 := by
      have := numB_len9 (n := ts.length) (by omega)
      rw [List.length_append]; omega
    obtain ⟨b0, hb0e⟩ : ∃ b0, b ++ numB ts.length = b0 := ⟨_, rfl⟩
    rw [hb0e] at hW hb0 hnum
    refine spl_lendW TT_ok 7 100 301 (f := 80) (avs := [.ptr 7 0 0, .v (.int .i64 (ts.length : Int))]) (L := [.ptr 7 0 0, .v (.int .i64 (ts.length : Int))]) rfl rfl rfl rfl rfl (by kernel_rfl) Try.func80 hcn (by simp [Try.ntmps80]) (by decide) rfl rfl (fun q hq => by simpa [idsL, AV.ids] using hq) (fun q hq => by simpa [wO, idsLL, idsL, AV.ids] using hq) (ids_bO b) (by simp) hnum (by decide) (by decide) ?_
    unfold wO bO
    (refine spl_eq (τ := ?_) ?_ ?_; rotate_left; (focus ((try simp only [AS.frz, List.map_cons, List.map_nil]); (try simp [frzV, frzO, frzC, List.filter]); rfl)))
    refine spl_nil ?_
    clear hnum hcn hb0e
    refine amStr (h := ?_)
    refine amReg PT1_ok (h := ?_)
    refine amStr (h := ?_)
    refine s_loopI hI1 (J := fun i : {k : Nat // k ≤ ts.length} => ⟨28, [(0, .ptr 7 0 0), (2, .bnd 82 [.ptr 7 0 0]), (12, aInts ts), (13, .v (.int .i64 (ts.length : Int))), (14, .v (.int .i64 (i.1 : Int)))], [(7, ⟨74, 1, [[.ref 301 0 ((ts.take i.1).foldl putT b0).length]]⟩), (301, ⟨5, 1, ((ts.take i.1).foldl putT b0).map fun x => [.v (.int .u8 x)]⟩), (201, ⟨72, 1, [[.ptr 7 0 0]]⟩), (202, ⟨27, 2, [[aInts ts, aInts cs]]⟩)], [301, 202, 201, 7, 100]⟩) (μ := fun i => ts.length - i.1) ⟨0, Nat.zero_le _⟩ ?_ (fun ⟨i, hie⟩ => ?_)
    · (refine weakI_of (fun i => i) ⟨rfl, ?_, ?_, ?_⟩ ?_ <;> ((try simp only [List.mem_cons, List.not_mem_nil, or_false, forall_eq_or_imp, forall_eq]); (try simp (disch := omega) [lk, AV.ids, idsL, idsLL, AV.ren, renL, renLL, i64w, *])))
    dsimp only
    have hbl := foldT_len (Nat.le_refl _) (ts.take i) b0 (fun x hx => List.all_eq_true.1 ht x (List.mem_of_mem_take hx)) hb0
    have hWi := hW i
    have hsuc := fun hk => foldl_take putT b0 (xs := ts) (k := i) hk
    obtain ⟨d, hd⟩ : ∃ d, (ts.take i).foldl putT b0 = d := ⟨_, rfl⟩
    rw [hd] at hWi hbl hsuc
    rw [hd]
    have hdE := Lib.hid hd
    clear hd hW
    refine amStr (h := ?_)
    refine amReg PT1_ok (h := ?_)
    refine amStr (h := ?_)
    (focus ((with_reducible refine sp_cond (b := ?_) ?_ (fun hc => ?_) (fun hc => ?_)); rotate_left; (focus (first | rfl | (simp [lk, AS.ev]; rfl))); all_goals (try simp at hc)))
    · have hii := hc
      clear hc
      have hsuc2 := hsuc hii
      clear hsuc
      have hx1 : ts[i] = ts.getD i 0 := by simp [List.getD, hii]
      rw [hx1] at hsuc2
      have hxl := List.all_eq_true.1 ht _ (getD_memI hii)
      obtain ⟨x, hx⟩ : ∃ x, ts.getD i 0 = x := ⟨_, rfl⟩
      rw [hx] at hsuc2 hxl
      unfold okLit at hxl
      simp only [Bool.and_eq_true, decide_eq_true_eq] at hxl
      refine amStr (h := ?_)
      refine amReg PT1_ok (h := ?_)
      refine amStr (h := ?_)
      by_cases hmx : maxB < d.length
      · have hm1 : (16777216 : Int) < (d.length : Int) := by omega
        have hDd : D = d := by rw [hWi]; exact putT_stop hmx _
        subst hDd
        clear hWi hsuc2
        refine amStr (h := ?_)
        refine amReg PT1_ok (h := ?_)
        refine amStr (h := ?_)
        refine ⟨.inr rfl, _, rfl, ?_⟩
        (refine spl_eq (τ := ?_) ?_ ?_; rotate_left; (focus ((try simp only [AS.frz, List.map_cons, List.map_nil]); (try simp [frzV, frzO, frzC, List.filter]); rfl)))
        refine spl_nil ?_
        refine ⟨rfl, fun c Q' k => s_weakI hI0 _ ?_ k⟩
        (refine weakI_of (fun i => i) ⟨rfl, ?_, ?_, ?_⟩ ?_ <;> ((try simp only [List.mem_cons, List.not_mem_nil, or_false, forall_eq_or_imp, forall_eq]); (try simp (disch := omega) [lk, AV.ids, idsL, idsLL, AV.ren, renL, renLL, i64w, *])))
      · have hm1 : ¬ ((16777216 : Int) < (d.length : Int)) := by omega
        have hput : putT d x = d ++ numB (litN x) := if_neg hmx
        rw [hput] at hsuc2
        refine amStr (h := ?_)
        refine amReg PT1_ok (h := ?_)
        refine amStr (h := ?_)
        refine s_regionL ?_
        ((iterate 2 (((with_reducible refine spl_step TT_ok PT1_ok (id := 0) (σ' := ?_) ?_ ?_); rotate_left; (focus (simp [*]; rfl))))))
        refine spl_enter TT_ok rfl rfl rfl (by kernel_rfl) Try.func82 rfl (enters_entry (avs := [.v (.int .i64 x)]) (L := [.ptr 7 0 0, .v (.int .i64 x)]) rfl (by kernel_rfl) rfl rfl) (by simp [Try.ntmps82]) fun B2 hI2 hro2 => ?_
        replace hI2 : B2.I0 = [301, 202, 201, 7, 100] := hI2
        rw [Try.ntmps82, Try.results82]
        simp only [enumA, Nat.zero_add]
        have hw1 : IntKind.i64.wrap (2 * x) = 2 * x := i64w (by omega) (by omega)
        have hw2 : IntKind.i64.wrap (1 - 2 * x) = 1 - 2 * x := i64w (by omega) (by omega)
        clear hWi hsuc2 hput
        refine s_regionL ?_
        ((iterate 7 (((with_reducible refine spl_step TT_ok PT1_ok (id := 0) (σ' := ?_) ?_ ?_); rotate_left; (focus (simp [*]; rfl))))))
        have hmx2 : (if 2 * x < 1 - 2 * x then 1 - 2 * x else 2 * x) = (litN x : Int) := by unfold litN; split <;> split <;> omega
        obtain ⟨cn2, hcn2, hnum2⟩ := number_lend 7 301 302 (litN x) d (by have := litN_le hxl.1 hxl.2; omega) (by omega) (by decide) (by decide) (by decide) (by decide) (by decide) (by decide)
        obtain ⟨d2, hd2⟩ : ∃ d2, d ++ numB (litN x) = d2 := ⟨_, rfl⟩
        rw [hd2] at hnum2
        rw [hmx2]
        refine spl_lendW TT_ok 7 301 302 (f := 80) (avs := [.ptr 7 0 0, .v (.int .i64 (litN x : Int))]) (L := [.ptr 7 0 0, .v (.int .i64 (litN x : Int))]) rfl rfl rfl rfl rfl (by kernel_rfl) Try.func80 hcn2 (by simp [Try.ntmps80]) (by decide) rfl rfl (fun q hq => by simpa [idsL, AV.ids] using hq) (fun q hq => by simpa [wO, idsLL, idsL, AV.ids] using hq) (ids_bO d) (by simp) hnum2 (by decide) (by decide) ?_
        unfold wO bO
        clear hnum2 hcn2 hmx2
        (refine spl_eq (τ := ?_) ?_ ?_; rotate_left; (focus ((try simp only [AS.frz, List.map_cons, List.map_nil]); (try simp [frzV, frzO, frzC, List.filter]); rfl)))
        refine spl_nil ?_
        refine amStr (h := ?_)
        refine ⟨.inl rfl, _, rfl, ?_⟩
        (refine spl_eq (τ := ?_) ?_ ?_; rotate_left; (focus ((try simp only [AS.frz, List.map_cons, List.map_nil]); (try simp [frzV, frzO, frzC, List.filter]); rfl)))
        refine spl_nil ?_
        have hwi : IntKind.i64.wrap ((i : Int) + 1) = (i : Int) + 1 := i64s i (by omega)
        refine amStr (h := ?_)
        refine amReg PT1_ok (h := ?_)
        refine amStr (h := ?_)
        refine ki_lp (⟨i + 1, by omega⟩ : {k : Nat // k ≤ ts.length}) (by first | omega | (dsimp only; omega)) ?_
        dsimp only
        have hs3 : (ts.take (i + 1)).foldl putT b0 = d2 := by
          rw [foldl_take putT b0 hii, hx1, hx, hdE.out, ← hd2]; exact if_neg hmx
        rw [hs3]
        (refine weakI_of (fun q => if q = 301 then 302 else q) ⟨rfl, ?_, ?_, ?_⟩ ?_ <;> ((try simp only [List.mem_cons, List.not_mem_nil, or_false, forall_eq_or_imp, forall_eq]); (try simp (disch := omega) [lk, AV.ids, idsL, idsLL, AV.ren, renL, renLL, i64w, *])))
    · obtain rfl : i = ts.length := by omega
      clear hc hsuc
      have hDd : D = d := by rw [hWi, List.drop_length]; rfl
      subst hDd
      clear hWi
      refine amStr (h := ?_)
      refine ⟨.inl rfl, _, rfl, ?_⟩
      (refine spl_eq (τ := ?_) ?_ ?_; rotate_left; (focus ((try simp only [AS.frz, List.map_cons, List.map_nil]); (try simp [frzV, frzO, frzC, List.filter]); rfl)))
      refine spl_nil ?_
      refine ⟨rfl, fun c Q' k => s_weakI hI0 _ ?_ k⟩
      (refine weakI_of (fun i => i) ⟨rfl, ?_, ?_, ?_⟩ ?_ <;> ((try simp only [List.mem_cons, List.not_mem_nil, or_false, forall_eq_or_imp, forall_eq]); (try simp (disch := omega) [lk, AV.ids, idsL, idsLL, AV.ren, renL, renLL, i64w, *])))
  clear hW
  have hDl : D.length ≤ maxB + 9 := by
    rw [← hD]
    unfold wT
    refine foldT_len (Nat.le_refl _) ts _ (fun x hx => List.all_eq_true.1 ht x hx) ?_
    have := numB_len9 (n := ts.length) (by omega)
    rw [List.length_append]; omega
  clear hD
  have hW := wC_at D cs
  obtain ⟨E, hE⟩ : ∃ E, wC D cs = E := ⟨_, rfl⟩
  rw [hE] at hW ⊢
  refine amStr (h := ?_)
  refine s_regionL ?_
  (((with_reducible refine spl_step TT_ok PT1_ok (id := 203) (σ' := ?_) ?_ ?_); rotate_left; (focus (simp [*]; rfl))))
  ((iterate 1 (((with_reducible refine spl_step TT_ok PT1_ok (id := 0) (σ' := ?_) ?_ ?_); rotate_left; (focus (simp [*]; rfl))))))
  refine spl_nil ?_
  refine amStr (h := ?_)
  refine s_regionL ?_
  ((iterate 4 (((with_reducible refine spl_step TT_ok PT1_ok (id := 0) (σ' := ?_) ?_ ?_); rotate_left; (focus (simp [*]; rfl))))))
  refine spl_call TT_ok rfl rfl rfl (by kernel_rfl) Try.func81 rfl (avs := [.ptr 7 0 0, aInts cs, .clo 83 [.ptr 201 0 0, .ptr 203 0 0]]) (cs := []) rfl rfl (by simp [Try.ntmps81]) fun B1 hI1 hro1 => ?_
  replace hI1 : B1.I0 = [203, 301, 202, 201, 7, 100] := hI1
  rw [Try.ntmps81, Try.results81]
  simp only [enumA, List.append_nil, Nat.zero_add]
  refine amStr (h := ?_)
  refine s_regionL ?_
  ((iterate 3 (((with_reducible refine spl_step TT_ok PT1_ok (id := 0) (σ' := ?_) ?_ ?_); rotate_left; (focus (simp [*]; rfl))))))
  obtain ⟨cn, hcn, hnum⟩ := number_lend 7 301 311 cs.length D (by omega) (by omega) (by decide) (by decide) (by decide) (by decide) (by decide) (by decide)
  have hb0 : (D ++ numB cs.length).length ≤ maxB + 18 := by
    have := numB_len9 (n := cs.length) (by omega)
    rw [List.length_append]; omega
  obtain ⟨b0, hb0e⟩ : ∃ b0, D ++ numB cs.length = b0 := ⟨_, rfl⟩
  rw [hb0e] at hW hb0 hnum
  refine spl_lendW TT_ok 7 301 311 (f := 80) (avs := [.ptr 7 0 0, .v (.int .i64 (cs.length : Int))]) (L := [.ptr 7 0 0, .v (.int .i64 (cs.length : Int))]) rfl rfl rfl rfl rfl (by kernel_rfl) Try.func80 hcn (by simp [Try.ntmps80]) (by decide) rfl rfl (fun q hq => by simpa [idsL, AV.ids] using hq) (fun q hq => by simpa [wO, idsLL, idsL, AV.ids] using hq) (ids_bO D) (by simp) hnum (by decide) (by decide) ?_
  unfold wO bO
  clear hnum hcn hb0e hDl
  (refine spl_eq (τ := ?_) ?_ ?_; rotate_left; (focus ((try simp only [AS.frz, List.map_cons, List.map_nil]); (try simp [frzV, frzO, frzC, List.filter]); rfl)))
  refine spl_nil ?_
  refine amStr (h := ?_)
  refine amReg PT1_ok (h := ?_)
  refine amStr (h := ?_)
  refine s_loopI hI1 (J := fun i : {k : Nat // k ≤ cs.length} => ⟨28, [(0, .ptr 7 0 0), (2, .clo 83 [.ptr 201 0 0, .ptr 203 0 0]), (12, aInts cs), (13, .v (.int .i64 (cs.length : Int))), (14, .v (.int .i64 (i.1 : Int)))], [(7, ⟨74, 1, [[.ref 311 0 ((cs.take i.1).foldl putC (b0, 0)).1.length]]⟩), (311, ⟨5, 1, ((cs.take i.1).foldl putC (b0, 0)).1.map fun x => [.v (.int .u8 x)]⟩), (201, ⟨72, 1, [[.ptr 7 0 0]]⟩), (202, ⟨27, 2, [[aInts ts, aInts cs]]⟩), (203, ⟨3, 1, [[.v (.int .i64 ((cs.take i.1).foldl putC (b0, 0)).2)]]⟩)], [311, 203, 301, 202, 201, 7, 100]⟩) (μ := fun i => cs.length - i.1) ⟨0, Nat.zero_le _⟩ ?_ (fun ⟨i, hie⟩ => ?_)
  · (refine weakI_of (fun i => i) ⟨rfl, ?_, ?_, ?_⟩ ?_ <;> ((try simp only [List.mem_cons, List.not_mem_nil, or_false, forall_eq_or_imp, forall_eq]); (try simp (disch := omega) [lk, AV.ids, idsL, idsLL, AV.ren, renL, renLL, i64w, *])))
  dsimp only
  have hbl := foldC_len (show maxB + 9 ≤ maxB + 18 by omega) (cs.take i) (b0, 0) (fun x hx => hcs x (List.mem_of_mem_take hx)) hb0 (Int.le_refl 0)
  have hlast := foldC_last b0 cs i hie
  have hWi := hW i
  obtain ⟨d, hd⟩ : ∃ d, (cs.take i).foldl putC (b0, 0) = d := ⟨_, rfl⟩
  rw [hd] at hWi hbl hlast
  rw [hd]
  have hdE := Lib.hid hd
  clear hd hW
  obtain ⟨d, la⟩ := d
  dsimp only at hbl hlast ⊢
  refine amStr (h := ?_)
  refine amReg PT1_ok (h := ?_)
  refine amStr (h := ?_)
  (focus ((with_reducible refine sp_cond (b := ?_) ?_ (fun hc => ?_) (fun hc => ?_)); rotate_left; (focus (first | rfl | (simp [lk, AS.ev]; rfl))); all_goals (try simp at hc)))
  · have hii := hc
    clear hc
    have hx1 : cs[i] = cs.getD i 0 := by simp [List.getD, hii]
    have hxm := hcs _ (getD_memI hii)
    have hxa : 0 < i → cs.getD (i - 1) 0 < cs.getD i 0 := fun h => hasc (i - 1) i (by omega) hii
    obtain ⟨x, hx⟩ : ∃ x, cs.getD i 0 = x := ⟨_, rfl⟩
    rw [hx] at hxm hxa hx1
    refine amStr (h := ?_)
    refine amReg PT1_ok (h := ?_)
    refine amStr (h := ?_)
    by_cases hmx : maxB < d.length
    · have hm1 : (16777216 : Int) < (d.length : Int) := by omega
      have hDd : E = d := by rw [hWi, putC_stop hmx]
      subst hDd
      clear hWi hlast hxa hx1
      refine amStr (h := ?_)
      refine amReg PT1_ok (h := ?_)
      refine amStr (h := ?_)
      refine ⟨.inr rfl, _, rfl, ?_⟩
      (refine spl_eq (τ := ?_) ?_ ?_; rotate_left; (focus ((try simp only [AS.frz, List.map_cons, List.map_nil]); (try simp [frzV, frzO, frzC, List.filter]); rfl)))
      refine spl_nil ?_
      refine amStr (h := ?_)
      refine ⟨.inl rfl, _, rfl, rfl, ?_⟩
      (refine weakI_of (fun q => if q = 101 then 311 else q) ⟨rfl, ?_, ?_, ?_⟩ ?_ <;> ((try simp only [List.mem_cons, List.not_mem_nil, or_false, forall_eq_or_imp, forall_eq]); (try simp (disch := omega) [lk, AV.ids, idsL, idsLL, AV.ren, renL, renLL, i64w, *])))
    · have hm1 : ¬ ((16777216 : Int) < (d.length : Int)) := by omega
      have hla := hlast (by omega)
      have hlx : la ≤ x ∧ 0 ≤ la := by
        refine ⟨?_, hbl.2⟩
        rw [hla]
        split
        · omega
        · have := hxa (by omega); omega
      clear hla hlast hWi hxa
      have hw1 : IntKind.i64.wrap (x - la) = ((x - la).toNat : Int) := by rw [i64w (by omega) (by omega)]; omega
      have hs3 : (cs.take (i + 1)).foldl putC (b0, 0) = (d ++ numB (x - la).toNat, x) := by
        rw [foldl_take putC (b0, 0) hii, hx1, hdE.out]; exact if_neg hmx
      clear hx1 hdE
      have hdl := hbl.1
      clear hbl
      obtain ⟨g, hg⟩ : ∃ g, (x - la).toNat = g := ⟨_, rfl⟩
      rw [hg] at hw1 hs3
      refine amStr (h := ?_)
      refine amReg PT1_ok (h := ?_)
      refine amStr (h := ?_)
      refine s_regionL ?_
      ((iterate 2 (((with_reducible refine spl_step TT_ok PT1_ok (id := 0) (σ' := ?_) ?_ ?_); rotate_left; (focus (simp [*]; rfl))))))
      refine spl_enter TT_ok rfl rfl rfl (by kernel_rfl) Try.func83 rfl (enters_entry (avs := [.v (.int .i64 x)]) (L := [.v (.int .i64 x), .ptr 201 0 0, .ptr 203 0 0]) rfl (by kernel_rfl) rfl rfl) (by simp [Try.ntmps83]) fun B2 hI2 hro2 => ?_
      replace hI2 : B2.I0 = [311, 203, 301, 202, 201, 7, 100] := hI2
      rw [Try.ntmps83, Try.results83]
      simp only [enumA, Nat.zero_add]
      refine amStr (h := ?_)
      refine s_regionL ?_
      ((iterate 4 (((with_reducible refine spl_step TT_ok PT1_ok (id := 0) (σ' := ?_) ?_ ?_); rotate_left; (focus (simp [*]; rfl))))))
      obtain ⟨cn2, hcn2, hnum2⟩ := number_lend 7 311 312 g d (by omega) (by omega) (by decide) (by decide) (by decide) (by decide) (by decide) (by decide)
      obtain ⟨d2, hd2⟩ : ∃ d2, d ++ numB g = d2 := ⟨_, rfl⟩
      rw [hd2] at hnum2 hs3
      refine spl_lendW TT_ok 7 311 312 (f := 80) (avs := [.ptr 7 0 0, .v (.int .i64 (g : Int))]) (L := [.ptr 7 0 0, .v (.int .i64 (g : Int))]) rfl rfl rfl rfl rfl (by kernel_rfl) Try.func80 hcn2 (by simp [Try.ntmps80]) (by decide) rfl rfl (fun q hq => by simpa [idsL, AV.ids] using hq) (fun q hq => by simpa [wO, idsLL, idsL, AV.ids] using hq) (ids_bO d) (by simp) hnum2 (by decide) (by decide) ?_
      unfold wO bO
      clear hnum2 hcn2 hd2
      (refine spl_eq (τ := ?_) ?_ ?_; rotate_left; (focus ((try simp only [AS.frz, List.map_cons, List.map_nil]); (try simp [frzV, frzO, frzC, List.filter]); rfl)))
      refine spl_nil ?_
      refine amStr (h := ?_)
      refine amReg PT1_ok (h := ?_)
      refine amStr (h := ?_)
      refine ⟨.inl rfl, _, rfl, ?_⟩
      (refine spl_eq (τ := ?_) ?_ ?_; rotate_left; (focus ((try simp only [AS.frz, List.map_cons, List.map_nil]); (try simp [frzV, frzO, frzC, List.filter]); rfl)))
      refine spl_nil ?_
      have hwi : IntKind.i64.wrap ((i : Int) + 1) = (i : Int) + 1 := i64s i (by omega)
      refine amStr (h := ?_)
      refine amReg PT1_ok (h := ?_)
      refine amStr (h := ?_)
      refine ki_lp (⟨i + 1, by omega⟩ : {k : Nat // k ≤ cs.length}) (by first | omega | (dsimp only; omega)) ?_
      dsimp only
      rw [hs3]
      (refine weakI_of (fun q => if q = 311 then 312 else q) ⟨rfl, ?_, ?_, ?_⟩ ?_ <;> ((try simp only [List.mem_cons, List.not_mem_nil, or_false, forall_eq_or_imp, forall_eq]); (try simp (disch := omega) [lk, AV.ids, idsL, idsLL, AV.ren, renL, renLL, i64w, *])))
  · obtain rfl : i = cs.length := by omega
    clear hc
    have hDd : E = d := by rw [hWi, List.drop_length]; rfl
    subst hDd
    clear hWi hlast
    refine amStr (h := ?_)
    refine ⟨.inl rfl, _, rfl, ?_⟩
    (refine spl_eq (τ := ?_) ?_ ?_; rotate_left; (focus ((try simp only [AS.frz, List.map_cons, List.map_nil]); (try simp [frzV, frzO, frzC, List.filter]); rfl)))
    refine spl_nil ?_
    refine amStr (h := ?_)
    refine ⟨.inl rfl, _, rfl, rfl, ?_⟩
    (refine weakI_of (fun q => if q = 101 then 311 else q) ⟨rfl, ?_, ?_, ?_⟩ ?_ <;> ((try simp only [List.mem_cons, List.not_mem_nil, or_false, forall_eq_or_imp, forall_eq]); (try simp (disch := omega) [lk, AV.ids, idsL, idsLL, AV.ren, renL, renLL, i64w, *])))
end Go.Proofs.Ythdjgcjpolpgdaa
