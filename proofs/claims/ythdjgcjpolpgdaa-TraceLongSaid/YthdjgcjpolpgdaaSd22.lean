/- The reference's Decode; no condition. -/
import Derived.Test.YthdjgcjpolpgdaaSn22
import Derived.Test.YthdjgcjpolpgdaaWa
import Derived.Test.YthdjgcjpolpgdaaRm22
namespace Go.Proofs.Ythdjgcjpolpgdaa
set_option linter.unusedVariables false
set_option linter.unusedSimpArgs false
set_option linter.unusedSectionVars false
open Go.RowKit
attribute [local simp] List.getD_cons_zero List.getD_cons_succ List.getD_nil undef gvars runL runE effA stepA dstOk wantA core lk st dl AS.ev AS.evs AS.put AS.upd updO updI nxt cPick cAlloc cBox cBuild cBuildS cLoad cStore cNil plainOf cBin cNilS isNilS nilA cUn cConvX cConvB cConv bytesOf rowB cMake cSlice slA idxA cFA cF cIA cIX cIS cI cExt cLen cApp cMM cFun cCall lenA lenM isNilM nilM cNilM cMakeM hintB cMapK cLook foundR lookR cUpd putM cDel delM findA isKeyB Instr.sameNow AS.entry AS.bound AS.callee sc1 sc2 ixOk ldA AV.flat AV.cell AV.cells Value.oneCell' fillA spl chunk zeros AS.parts AS.rows AS.shut AS.shut1 AS.shut2 AS.shutL AS.shutM AV.ids idsL idsLL eqAll bndA AV.scalar AV.scalar1 AV.isV Ef.app Ef.pk ptOf pntO wrO wr
attribute [-simp] List.getD_eq_getElem?_getD
set_option maxRecDepth 100000
def litF (b : List Int) (s : Nat × Bool) : Int × Nat × Bool := (if (nfR b s).1 % 2 = 1 then -(((nfR b s).1 / 2 : Nat) : Int) else (((nfR b s).1 / 2 : Nat) : Int), (nfR b s).2)
def ixF (b : List Int) (s : Int × Nat × Bool) : Int × Int × Nat × Bool := (s.1 + ((nfR b s.2).1 : Int), s.1 + ((nfR b s.2).1 : Int), (nfR b s.2).2)
def tF (b : List Int) (s : Nat × Bool) : List Int × Nat × Bool := rdLoop (litF b) (fun s => s.2) (nfR b s).1 [] (nfR b s).2
def iF (b : List Int) (s : Nat × Bool) : List Int × Int × Nat × Bool := rdLoop (ixF b) (fun s => s.2.2) (nfR b s).1 [] (0, (nfR b s).2)
def clF (b : List Int) (s : Nat × Bool) : Cl × Nat × Bool := (((tF b s).1, (iF b (tF b s).2).1), (iF b (tF b s).2).2.2)
def dF (b : List Int) : List Cl × Nat × Bool := rdLoop (clF b) (fun s => s.2) (nfR b (0, false)).1 [] (nfR b (0, false)).2
def capF (s : Nat × Bool) : Nat := s.1 + (if s.2 = true then 1 else 0)
theorem capF_le {b : List Int} {s : Nat × Bool} (h : s.1 ≤ b.length) : capF s ≤ b.length + 1 := by unfold capF; split <;> omega
theorem nfR_cap (b : List Int) (s : Nat × Bool) (h : s.1 ≤ b.length) (hs : s.2 = false) : capF s + 1 ≤ capF (nfR b s).2 := by
  obtain ⟨_, h2, h3, h4⟩ := nfR_ok b s h
  unfold capF
  rw [hs]
  cases hb : (nfR b s).2.2
  · have := h4 hb; simp; omega
  · simp; omega
theorem nfG_bad (b : List Int) : ∀ f a v o, (nfG b true f a v o).2.2 = true
  | 0, _, _, _ => rfl
  | f + 1, a, v, o => by
    rw [nfG]
    split
    · split
      · rfl
      · exact nfG_bad b f _ _ _
    · rfl
theorem nfR_mono (b : List Int) (s : Nat × Bool) (h : s.1 ≤ b.length) : capF s ≤ capF (nfR b s).2 := by
  obtain ⟨a, bd⟩ := s
  cases bd
  · have := nfR_cap b (a, false) h rfl; omega
  · have h1 : (nfR b (a, true)).2.2 = true := nfG_bad b 4 a 0 1
    have h2 := (nfR_ok b (a, true) h).2.1
    unfold capF
    rw [h1]
    simp only [if_true]
    omega
theorem tF_ok (b : List Int) (s : Nat × Bool) (h : s.1 ≤ b.length) (hl : b.length ≤ 3000) : (tF b s).2.1 ≤ b.length ∧ capF (nfR b s).2 ≤ capF (tF b s).2 ∧ (tF b s).1.length ≤ capF (tF b s).2 ∧ okInts (tF b s).1 = true := by
  have h2 := rdLoop_inv (one := litF b) (bd := fun s => s.2) (fun out s' => s'.1 ≤ b.length ∧ capF (nfR b s).2 ≤ capF s' ∧ out.length ≤ capF s' ∧ ∀ x ∈ out, okI x = true) (fun out s' hb hi => by
    obtain ⟨i1, i2, i3, i4⟩ := hi
    obtain ⟨p1, p2, p3, p4⟩ := nfR_ok b s' i1
    have p5 := nfR_cap b s' i1 hb
    refine ⟨p3, by show _ ≤ capF (nfR b s').2; omega, by show _ ≤ capF (nfR b s').2; rw [List.length_append, List.length_singleton]; omega, fun x hx => ?_⟩
    rw [List.mem_append, List.mem_singleton] at hx
    rcases hx with hx | rfl
    · exact i4 x hx
    · unfold litF
      dsimp only
      refine okI_iff.2 ?_
      split <;> exact ⟨by omega, by omega⟩) (nfR b s).1 [] (nfR b s).2 ⟨(nfR_ok b s h).2.2.1, Nat.le_refl _, Nat.zero_le _, fun x hx => (by cases hx)⟩
  obtain ⟨h3, h4, h5, h6⟩ := h2
  have h7 := capF_le h3
  exact ⟨h3, h4, h5, okInts_of (by unfold tF; omega) h6⟩
theorem iF_ok (b : List Int) (s : Nat × Bool) (h : s.1 ≤ b.length) (hl : b.length ≤ 3000) : (iF b s).2.2.1 ≤ b.length ∧ capF (nfR b s).2 ≤ capF (iF b s).2.2 ∧ okInts (iF b s).1 = true := by
  have h2 := rdLoop_inv (one := ixF b) (bd := fun s => s.2.2) (fun out s' => s'.2.1 ≤ b.length ∧ capF (nfR b s).2 ≤ capF s'.2 ∧ out.length ≤ capF s'.2 ∧ (0 ≤ s'.1 ∧ s'.1 ≤ (out.length : Int) * 268435456) ∧ ∀ x ∈ out, 0 ≤ x ∧ x ≤ s'.1) (fun out s' hb hi => by
    obtain ⟨i1, i2, i3, i0, i4⟩ := hi
    obtain ⟨p1, p2, p3, p4⟩ := nfR_ok b s'.2 i1
    have p5 := nfR_cap b s'.2 i1 hb
    refine ⟨p3, by show _ ≤ capF (nfR b s'.2).2; omega, by show _ ≤ capF (nfR b s'.2).2; rw [List.length_append, List.length_singleton]; omega, ?_, fun x hx => ?_⟩
    · unfold ixF
      dsimp only
      rw [List.length_append, List.length_singleton]
      exact ⟨by omega, by omega⟩
    · rw [List.mem_append, List.mem_singleton] at hx
      rcases hx with hx | rfl
      · have := i4 x hx
        unfold ixF
        dsimp only
        omega
      · unfold ixF
        dsimp only
        omega) (nfR b s).1 [] (0, (nfR b s).2) ⟨(nfR_ok b s h).2.2.1, Nat.le_refl _, Nat.zero_le _, ⟨Int.le_refl 0, by simp⟩, fun x hx => (by cases hx)⟩
  obtain ⟨h3, h4, h5, h0, h6⟩ := h2
  have h7 := capF_le h3
  refine ⟨h3, h4, okInts_of (by unfold iF; omega) (fun x hx => ?_)⟩
  have := h6 x hx
  exact okI_iff.2 ⟨by omega, by omega⟩
theorem dF_ok (b : List Int) (hl : b.length ≤ 3000) : okCl (dF b).1 = true ∧ (dF b).1.length ≤ 3001 := by
  have h0 : ((0, false) : Nat × Bool).1 ≤ b.length := Nat.zero_le _
  have h2 := rdLoop_inv (one := clF b) (bd := fun s => s.2) (fun out s' => s'.1 ≤ b.length ∧ out.length ≤ capF s' ∧ ∀ p ∈ out, (okInts p.1 && okInts p.2) = true) (fun out s' hb hi => by
    obtain ⟨i1, i3, i4⟩ := hi
    have p5 := nfR_cap b s' i1 hb
    obtain ⟨t1, t2, t3, t4⟩ := tF_ok b s' i1 hl
    obtain ⟨u1, u2, u3⟩ := iF_ok b (tF b s').2 t1 hl
    have u4 := nfR_mono b (tF b s').2 t1
    refine ⟨u1, by show _ ≤ capF (iF b (tF b s').2).2.2; rw [List.length_append, List.length_singleton]; omega, fun x hx => ?_⟩
    rw [List.mem_append, List.mem_singleton] at hx
    rcases hx with hx | rfl
    · exact i4 x hx
    · show (okInts (tF b s').1 && okInts (iF b (tF b s').2).1) = true
      rw [t4, u3]; rfl) (nfR b (0, false)).1 [] (nfR b (0, false)).2 ⟨(nfR_ok b (0, false) h0).2.2.1, Nat.zero_le _, fun x hx => (by cases hx)⟩
  obtain ⟨h3, h4, h5⟩ := h2
  have h6 := capF_le h3
  have h7 : (dF b).1.length ≤ 3001 := by unfold dF; omega
  refine ⟨?_, h7⟩
  unfold okCl
  rw [Bool.and_eq_true, decide_eq_true_eq]
  exact ⟨by omega, List.all_eq_true.2 h5⟩
theorem numB_by : ∀ (j n : Nat), n ≤ j → okBy (numB n) = true
  | j, n, h => by
    by_cases hn : n < 128
    · rw [numB_lt hn]; simp [okBy]; omega
    · rw [numB_ge hn]
      have := numB_by (j - 1) (n / 128) (by omega)
      unfold okBy at this ⊢
      rw [List.all_cons, this, Bool.and_true, Bool.and_eq_true, decide_eq_true_eq, decide_eq_true_eq]
      omega
  termination_by j n h => n
theorem okBy_app {x y : List Int} (hx : okBy x = true) (hy : okBy y = true) : okBy (x ++ y) = true := by
  unfold okBy at *; rw [List.all_append, hx, hy]; rfl
theorem okBy_flat {α : Type} {f : α → List Int} : ∀ {xs : List α}, (∀ x ∈ xs, okBy (f x) = true) → okBy (xs.flatMap f) = true
  | [], _ => rfl
  | x :: xs, h => by rw [List.flatMap_cons]; exact okBy_app (h x (by simp)) (okBy_flat fun y hy => h y (by simp [hy]))
theorem fullB_by (l : List Cl) : okBy (fullB l) = true := by
  unfold fullB
  refine okBy_app (numB_by _ _ (Nat.le_refl _)) (okBy_flat fun c _ => ?_)
  unfold clB tB cB
  exact okBy_app (okBy_app (numB_by _ _ (Nat.le_refl _)) (okBy_flat fun x _ => numB_by _ _ (Nat.le_refl _))) (okBy_app (numB_by _ _ (Nat.le_refl _)) (okBy_flat fun x _ => numB_by _ _ (Nat.le_refl _)))
theorem bytes_idem (b : List Int) : bytesOf (b.map fun x => [AV.v (.int .u8 x)]) = some b := by
  induction b with
  | nil => rfl
  | cons x b ih => simp [bytesOf, rowB, ih]
theorem strOf_inj {xs ys : List Int} (hx : okBy xs = true) (hy : okBy ys = true) (h : strOfNums xs = strOfNums ys) : xs = ys := by
  unfold strOfNums at h
  have h1 : xs.map (fun n => UInt8.ofNat n.toNat) = ys.map fun n => UInt8.ofNat n.toNat := by
    simpa using h
  have key : ∀ (xs ys : List Int), okBy xs = true → okBy ys = true → xs.map (fun n => UInt8.ofNat n.toNat) = ys.map (fun n => UInt8.ofNat n.toNat) → xs = ys := by
    intro xs
    induction xs with
    | nil => intro ys _ _ h; cases ys with
      | nil => rfl
      | cons _ _ => simp at h
    | cons x xs ih => intro ys h2 h3 h; cases ys with
      | nil => simp at h
      | cons y ys =>
        rw [List.map_cons, List.map_cons, List.cons.injEq] at h
        simp only [okBy, List.all_cons, Bool.and_eq_true, decide_eq_true_eq] at h2 h3
        have e := congrArg UInt8.toNat h.1
        rw [UInt8.toNat_ofNat', UInt8.toNat_ofNat'] at e
        rw [ih ys h2.2 h3.2 h.2]
        congr 1
        omega
  exact key xs ys hx hy h1
def decR (b : List Int) : AV := if (dF b).2.2 = false ∧ (dF b).1.all clG = true ∧ fullB (dF b).1 = b then .tup [aCls (dF b).1, .v (.int .i64 0)] else .tup [.v (.slice none 0 0), .v (.int .i64 5)]
attribute [local simp] AV.ren renL bytes_idem
set_option maxHeartbeats 16000000 in
theorem decodeF_p (b : List Int) (hb : okBy b = true) (hl : b.length ≤ 3000) : FnPure Try.prog 39 [aB b] (decR b) := by
  have hmax : maxB = 16777216 := rfl
  have hlm : (b.map fun x => [AV.v (.int .u8 x)]).length = b.length := List.length_map _
  have hlB : b.length ≤ maxB := by omega
  have g1 : ¬ ((16777216 : Int) < (b.length : Int)) := by omega
  obtain ⟨cn0, hcn0, hnum0⟩ := fnumber_lend b (0, false) hb hlB (Nat.zero_le _)
  obtain ⟨q1, _, q3, _⟩ := nfR_ok b (0, false) (Nat.zero_le _)
  have hDe : dF b = rdLoop (clF b) (fun s => s.2) (nfR b (0, false)).1 [] (nfR b (0, false)).2 := rfl
  obtain ⟨hok, hln⟩ := dF_ok b hl
  unfold decR
  obtain ⟨D, hD⟩ : ∃ D, dF b = D := ⟨_, rfl⟩
  rw [hD] at hDe hok hln ⊢
  clear hD
  obtain ⟨⟨n, a0, bad0⟩, hR⟩ : ∃ X, nfR b (0, false) = X := ⟨_, rfl⟩
  rw [hR] at hnum0 hDe q1 q3
  dsimp only at hnum0 hDe q1 q3
  clear hR
  have hX := hDe.symm
  clear hDe
  unfold aB
  refine fn_sp TT_ok Try.func39 (c := _) rfl (by simp [Try.ntmps39]) (fun B hI0 hro => ?_)
  rw [Try.ntmps39]
  simp only [enumA]
  refine amStr (h := ?_)
  refine amReg PT112_ok (h := ?_)
  refine amStr (h := ?_)
  refine amReg PT112_ok (h := ?_)
  refine amStr (h := ?_)
  refine s_regionL ?_
  ((iterate 2 (((with_reducible refine spl_step TT_ok PT112_ok (id := 0) (σ' := ?_) ?_ ?_); rotate_left; (focus (simp [*]; rfl))))))
  (((with_reducible refine spl_step TT_ok PT112_ok (id := 7) (σ' := ?_) ?_ ?_); rotate_left; (focus (simp [*]; rfl))))
  ((iterate 1 (((with_reducible refine spl_step TT_ok PT112_ok (id := 0) (σ' := ?_) ?_ ?_); rotate_left; (focus (simp [*]; rfl))))))
  refine spl_nil ?_
  refine amStr (h := ?_)
  refine s_regionL ?_
  ((iterate 1 (((with_reducible refine spl_step TT_ok PT112_ok (id := 0) (σ' := ?_) ?_ ?_); rotate_left; (focus (simp [*]; rfl))))))
  refine spl_lendR TT_ok 7 (f := 68) (avs := [.ptr 7 0 0]) (L := [.ptr 7 0 0]) rfl rfl rfl rfl rfl (by kernel_rfl) Try.func68 hcn0 (by simp [Try.ntmps68]) (by simp [lk, fO]) (fun q hq => by simpa [idsL, AV.ids] using hq) (ids_fO _ _) rfl hnum0 ?_
  unfold fO
  clear hnum0 hcn0
  (refine spl_eq (τ := ?_) ?_ ?_; rotate_left; (focus ((try simp only [AS.frz, List.map_cons, List.map_nil]); (try simp [frzV, frzO, frzC, List.filter]); rfl)))
  ((iterate 1 (((with_reducible refine spl_step TT_ok PT112_ok (id := 0) (σ' := ?_) ?_ ?_); rotate_left; (focus (simp [*]; rfl))))))
  refine spl_nil ?_
  refine amStr (h := ?_)
  refine amReg PT112_ok (h := ?_)
  refine amStr (h := ?_)
  refine amReg PT112_ok (h := ?_)
  refine k_seq ?_
  refine s_nil 6 60 27 2 (by simp [lk]) (by simp) ?_
  simp only [st]
  refine s_cutK ⟨119, [(0, .sl 1 (b.map fun x => [.v (.int .u8 x)])), (4, .ptr 7 0 0), (6, .ref 60 0 D.1.length)], [(7, ⟨94, 3, [[.sl 1 (b.map fun x => [.v (.int .u8 x)]), .v (.int .i64 (D.2.1 : Int)), .v (.bool D.2.2)]]⟩), (60, ⟨27, 2, D.1.map fun p => [aInts p.1, aInts p.2]⟩)], [60, 7]⟩ ?_ ?_
  · refine amStr (h := ?_)
    refine s_loop (J := fun x : {x : List Cl × Nat × Bool // rdLoop (clF b) (fun s => s.2) (n - x.1.length) x.1 x.2 = D ∧ x.2.1 ≤ b.length ∧ x.1.length ≤ n ∧ x.1.length ≤ capF x.2} => ⟨119, [(0, .sl 1 (b.map fun x => [.v (.int .u8 x)])), (4, .ptr 7 0 0), (5, .v (.int .i64 (n : Int))), (6, .ref 60 0 x.1.1.length), (7, .v (.int .i64 (x.1.1.length : Int)))], [(7, ⟨94, 3, [[.sl 1 (b.map fun x => [.v (.int .u8 x)]), .v (.int .i64 (x.1.2.1 : Int)), .v (.bool x.1.2.2)]]⟩), (60, ⟨27, 2, x.1.1.map fun p => [aInts p.1, aInts p.2]⟩)], [60, 7]⟩) (μ := fun x => n - x.1.1.length) ⟨([], a0, bad0), hX, q3, Nat.zero_le _, Nat.zero_le _⟩ ?_ (fun ⟨⟨out, a, bd⟩, hx, ha, hon, hcp⟩ => ?_)
    · (refine weak_id rfl ?_ ?_ <;> ((try simp only [List.mem_cons, List.not_mem_nil, or_false, forall_eq_or_imp, forall_eq]); (try simp (disch := omega) [i64w, *])))
    dsimp only at hx ha hon hcp
    dsimp only
    have hcp2 := capF_le (b := b) (s := (a, bd)) ha
    cases bd
    · by_cases hlt : out.length < n
      · have hlt1 : (out.length : Int) < (n : Int) := by omega
        obtain ⟨f, hf⟩ : ∃ f, n - out.length = f + 1 := ⟨n - out.length - 1, by omega⟩
        rw [hf, rdLoop, if_neg (by simp)] at hx
        refine amStr (h := ?_)
        refine amReg PT112_ok (h := ?_)
        refine amStr (h := ?_)
        refine s_regionL ?_
        (((with_reducible refine spl_step TT_ok PT112_ok (id := 205) (σ' := ?_) ?_ ?_); rotate_left; (focus (simp [*]; rfl))))
        refine spl_nil ?_
        refine amStr (h := ?_)
        refine s_cnil 205 0 0 50 3 1 rfl rfl (by simp) ?_ (by decide)
        (refine s_eq (τ := ?_) ?_ ?_; rotate_left; (focus ((try simp only [AS.frz, List.map_cons, List.map_nil]); (try simp [frzV, frzO, frzC, List.filter]); rfl)))
        refine s_cnil 205 0 1 51 3 1 rfl rfl (by simp) ?_ (by decide)
        (refine s_eq (τ := ?_) ?_ ?_; rotate_left; (focus ((try simp only [AS.frz, List.map_cons, List.map_nil]); (try simp [frzV, frzO, frzC, List.filter]); rfl)))
        obtain ⟨cn1, hcn1, hnum1⟩ := fnumber_lend b (a, false) hb hlB ha
        obtain ⟨q4, _, q6, _⟩ := nfR_ok b (a, false) ha
        have q5 := nfR_cap b (a, false) ha rfl
        obtain ⟨t1, t2, t3, t4⟩ := tF_ok b (a, false) ha hl
        obtain ⟨i1, i2, i3⟩ := iF_ok b (tF b (a, false)).2 t1 hl
        have i4 := nfR_mono b (tF b (a, false)).2 t1
        have hcl : clF b (a, false) = (((tF b (a, false)).1, (iF b (tF b (a, false)).2).1), (iF b (tF b (a, false)).2).2.2) := rfl
        rw [hcl] at hx
        clear hcl
        dsimp only at hx
        obtain ⟨T, hT⟩ : ∃ T, tF b (a, false) = T := ⟨_, rfl⟩
        rw [hT] at hx t1 t2 t3 t4 i1 i2 i3 i4
        unfold tF at hT
        obtain ⟨⟨m1, a1, bd1⟩, hM1⟩ : ∃ X, nfR b (a, false) = X := ⟨_, rfl⟩
        rw [hM1] at hnum1 hT q4 q5 q6 t2
        dsimp only at hnum1 hT q4 q5 q6 t2
        clear hM1
        refine s_regionL ?_
        ((iterate 1 (((with_reducible refine spl_step TT_ok PT112_ok (id := 0) (σ' := ?_) ?_ ?_); rotate_left; (focus (simp [*]; rfl))))))
        refine spl_lendR TT_ok 7 (f := 68) (avs := [.ptr 7 0 0]) (L := [.ptr 7 0 0]) rfl rfl rfl rfl rfl (by kernel_rfl) Try.func68 hcn1 (by simp [Try.ntmps68]) (by simp [lk, fO]) (fun q hq => by simpa [idsL, AV.ids] using hq) (ids_fO _ _) rfl hnum1 ?_
        unfold fO
        clear hnum1 hcn1
        (refine spl_eq (τ := ?_) ?_ ?_; rotate_left; (focus ((try simp only [AS.frz, List.map_cons, List.map_nil]); (try simp [frzV, frzO, frzC, List.filter]); rfl)))
        ((iterate 1 (((with_reducible refine spl_step TT_ok PT112_ok (id := 0) (σ' := ?_) ?_ ?_); rotate_left; (focus (simp [*]; rfl))))))
        refine spl_nil ?_
        refine amStr (h := ?_)
        refine amReg PT112_ok (h := ?_)
        refine k_seq ?_
        refine s_cutK ⟨119, [(0, .sl 1 (b.map fun x => [.v (.int .u8 x)])), (4, .ptr 7 0 0), (5, .v (.int .i64 (n : Int))), (6, .ref 60 0 out.length), (7, .v (.int .i64 (out.length : Int))), (8, .ptr 205 0 0)], [(7, ⟨94, 3, [[.sl 1 (b.map fun x => [.v (.int .u8 x)]), .v (.int .i64 (T.2.1 : Int)), .v (.bool T.2.2)]]⟩), (60, ⟨27, 2, out.map fun p => [aInts p.1, aInts p.2]⟩), (205, ⟨27, 2, [[.ref 50 0 T.1.length, .ref 51 0 0]]⟩), (50, ⟨3, 1, T.1.map fun x => [.v (.int .i64 x)]⟩), (51, ⟨3, 1, []⟩)], [51, 50, 205, 60, 7]⟩ ?_ ?_
        · refine amStr (h := ?_)
          refine s_loop (J := fun y : {y : List Int × Nat × Bool // rdLoop (litF b) (fun s => s.2) (m1 - y.1.length) y.1 y.2 = T ∧ y.2.1 ≤ b.length ∧ y.1.length ≤ m1 ∧ y.1.length ≤ capF y.2} => ⟨119, [(0, .sl 1 (b.map fun x => [.v (.int .u8 x)])), (4, .ptr 7 0 0), (5, .v (.int .i64 (n : Int))), (6, .ref 60 0 out.length), (7, .v (.int .i64 (out.length : Int))), (8, .ptr 205 0 0), (9, .v (.int .i64 (m1 : Int))), (10, .v (.int .i64 (y.1.1.length : Int)))], [(7, ⟨94, 3, [[.sl 1 (b.map fun x => [.v (.int .u8 x)]), .v (.int .i64 (y.1.2.1 : Int)), .v (.bool y.1.2.2)]]⟩), (60, ⟨27, 2, out.map fun p => [aInts p.1, aInts p.2]⟩), (205, ⟨27, 2, [[.ref 50 0 y.1.1.length, .ref 51 0 0]]⟩), (50, ⟨3, 1, y.1.1.map fun x => [.v (.int .i64 x)]⟩), (51, ⟨3, 1, []⟩)], [51, 50, 205, 60, 7]⟩) (μ := fun y => m1 - y.1.1.length) ⟨([], a1, bd1), hT, q6, Nat.zero_le _, Nat.zero_le _⟩ ?_ (fun ⟨⟨us, e, be⟩, hy, he, hum, huc⟩ => ?_)
          · (refine weak_id rfl ?_ ?_ <;> ((try simp only [List.mem_cons, List.not_mem_nil, or_false, forall_eq_or_imp, forall_eq]); (try simp (disch := omega) [i64w, *])))
          dsimp only at hy he hum huc
          dsimp only
          have huc2 := capF_le (b := b) (s := (e, be)) he
          cases be
          · by_cases hum2 : us.length < m1
            · have hum3 : (us.length : Int) < (m1 : Int) := by omega
              obtain ⟨g, hg⟩ : ∃ g, m1 - us.length = g + 1 := ⟨m1 - us.length - 1, by omega⟩
              rw [hg, rdLoop, if_neg (by simp)] at hy
              obtain ⟨cn2, hcn2, hnum2⟩ := fnumber_lend b (e, false) hb hlB he
              obtain ⟨r1, _, r3, _⟩ := nfR_ok b (e, false) he
              have r5 := nfR_cap b (e, false) he rfl
              unfold litF at hy
              obtain ⟨⟨x, e2, be2⟩, hX2⟩ : ∃ X, nfR b (e, false) = X := ⟨_, rfl⟩
              rw [hX2] at hnum2 hy r1 r3 r5
              dsimp only at hnum2 hy r1 r3 r5
              clear hX2
              have hq : Int.tdiv (x : Int) 2 = ((x / 2 : Nat) : Int) := by rw [Int.tdiv_eq_ediv_of_nonneg (by omega)]; omega
              have hr : Int.tmod (x : Int) 2 = ((x % 2 : Nat) : Int) := by rw [Int.tmod_eq_emod_of_nonneg (by omega)]; omega
              obtain ⟨h, hh⟩ : ∃ h, x / 2 = h := ⟨_, rfl⟩
              obtain ⟨r, hr2⟩ : ∃ r, x % 2 = r := ⟨_, rfl⟩
              rw [hh] at hq hy
              rw [hr2] at hr hy
              have hr1 : r < 2 := by omega
              have hh1 : h < 268435456 := by omega
              clear hh hr2
              have hwh : IntKind.i64.wrap (h : Int) = h := i64n h (by omega)
              have hwn : IntKind.i64.wrap (-(h : Int)) = -(h : Int) := i64w (by omega) (by omega)
              have hcap : us.length + 1 ≤ 140737488355328 := by omega
              have hcap8 : (us.length + 1) * 8 ≤ 140737488355328 := by omega
              have hwu : IntKind.i64.wrap ((us.length : Int) + 1) = (us.length : Int) + 1 := i64s _ (by omega)
              refine amStr (h := ?_)
              refine amReg PT112_ok (h := ?_)
              refine amStr (h := ?_)
              refine s_regionL ?_
              ((iterate 1 (((with_reducible refine spl_step TT_ok PT112_ok (id := 0) (σ' := ?_) ?_ ?_); rotate_left; (focus (simp [*]; rfl))))))
              refine spl_lendR TT_ok 7 (f := 68) (avs := [.ptr 7 0 0]) (L := [.ptr 7 0 0]) rfl rfl rfl rfl rfl (by kernel_rfl) Try.func68 hcn2 (by simp [Try.ntmps68]) (by simp [lk, fO]) (fun q hq => by simpa [idsL, AV.ids] using hq) (ids_fO _ _) rfl hnum2 ?_
              unfold fO
              clear hnum2 hcn2
              (refine spl_eq (τ := ?_) ?_ ?_; rotate_left; (focus ((try simp only [AS.frz, List.map_cons, List.map_nil]); (try simp [frzV, frzO, frzC, List.filter]); rfl)))
              ((iterate 1 (((with_reducible refine spl_step TT_ok PT112_ok (id := 0) (σ' := ?_) ?_ ?_); rotate_left; (focus (simp [*]; rfl))))))
              refine spl_nil ?_
              rcases (by omega : r = 1 ∨ r = 0) with rfl | rfl
              · rw [if_pos rfl] at hy
                refine amStr (h := ?_)
                refine amReg PT112_ok (h := ?_)
                refine amStr (h := ?_)
                refine s_regionL ?_
                ((iterate 5 (((with_reducible refine spl_step TT_ok PT112_ok (id := 0) (σ' := ?_) ?_ ?_); rotate_left; (focus (simp [*]; rfl))))))
                (((with_reducible refine spl_step TT_ok PT112_ok (id := 52) (σ' := ?_) ?_ ?_); rotate_left; (focus (simp [*]; rfl))))
                (((with_reducible refine spl_step TT_ok PT112_ok (id := 53) (σ' := ?_) ?_ ?_); rotate_left; (focus (simp [*]; rfl))))
                ((iterate 2 (((with_reducible refine spl_step TT_ok PT112_ok (id := 0) (σ' := ?_) ?_ ?_); rotate_left; (focus (simp [*]; rfl))))))
                refine spl_nil ?_
                refine amStr (h := ?_)
                refine amReg PT112_ok (h := ?_)
                refine amStr (h := ?_)
                refine k_lp (⟨(us ++ [-(h : Int)], e2, be2), by dsimp only; rw [List.length_append, show m1 - (us.length + [-(h : Int)].length) = g by simp; omega]; exact hy, r3, by simp; omega, by dsimp only; rw [List.length_append, List.length_singleton]; omega⟩ : {y : List Int × Nat × Bool // rdLoop (litF b) (fun s => s.2) (m1 - y.1.length) y.1 y.2 = T ∧ y.2.1 ≤ b.length ∧ y.1.length ≤ m1 ∧ y.1.length ≤ capF y.2}) (by simp; omega) ?_
                dsimp only
                (refine weak_of (fun q => if q = 50 then 53 else q) ⟨rfl, ?_, ?_, ?_⟩ <;> ((try simp only [List.mem_cons, List.not_mem_nil, or_false, forall_eq_or_imp, forall_eq]); (try simp (disch := omega) [lk, AV.ids, idsL, idsLL, AV.ren, renL, renLL, i64w, *])))
              · rw [if_neg (by decide)] at hy
                refine amStr (h := ?_)
                refine amReg PT112_ok (h := ?_)
                refine amStr (h := ?_)
                refine s_regionL ?_
                ((iterate 4 (((with_reducible refine spl_step TT_ok PT112_ok (id := 0) (σ' := ?_) ?_ ?_); rotate_left; (focus (simp [*]; rfl))))))
                (((with_reducible refine spl_step TT_ok PT112_ok (id := 52) (σ' := ?_) ?_ ?_); rotate_left; (focus (simp [*]; rfl))))
                (((with_reducible refine spl_step TT_ok PT112_ok (id := 53) (σ' := ?_) ?_ ?_); rotate_left; (focus (simp [*]; rfl))))
                ((iterate 2 (((with_reducible refine spl_step TT_ok PT112_ok (id := 0) (σ' := ?_) ?_ ?_); rotate_left; (focus (simp [*]; rfl))))))
                refine spl_nil ?_
                refine amStr (h := ?_)
                refine amReg PT112_ok (h := ?_)
                refine amStr (h := ?_)
                refine k_lp (⟨(us ++ [(h : Int)], e2, be2), by dsimp only; rw [List.length_append, show m1 - (us.length + [(h : Int)].length) = g by simp; omega]; exact hy, r3, by simp; omega, by dsimp only; rw [List.length_append, List.length_singleton]; omega⟩ : {y : List Int × Nat × Bool // rdLoop (litF b) (fun s => s.2) (m1 - y.1.length) y.1 y.2 = T ∧ y.2.1 ≤ b.length ∧ y.1.length ≤ m1 ∧ y.1.length ≤ capF y.2}) (by simp; omega) ?_
                dsimp only
                (refine weak_of (fun q => if q = 50 then 53 else q) ⟨rfl, ?_, ?_, ?_⟩ <;> ((try simp only [List.mem_cons, List.not_mem_nil, or_false, forall_eq_or_imp, forall_eq]); (try simp (disch := omega) [lk, AV.ids, idsL, idsLL, AV.ren, renL, renLL, i64w, *])))
            · have hum3 : ¬ ((us.length : Int) < (m1 : Int)) := by omega
              have hTo : T = (us, e, false) := by rw [← hy, show m1 - us.length = 0 by omega]; rfl
              subst hTo
              refine amStr (h := ?_)
              refine amReg PT112_ok (h := ?_)
              refine amStr (h := ?_)
              refine ⟨rfl, fun c Q' k => s_weakI hI0 _ ?_ k⟩
              (refine weakI_of (fun i => i) ⟨rfl, ?_, ?_, ?_⟩ ?_ <;> ((try simp only [List.mem_cons, List.not_mem_nil, or_false, forall_eq_or_imp, forall_eq]); (try simp (disch := omega) [lk, AV.ids, idsL, idsLL, AV.ren, renL, renLL, i64w, *])))
          · rw [rdLoop_end rfl] at hy
            subst hy
            obtain ⟨dlt, hdlt⟩ : ∃ dlt, decide ((us.length : Int) < (m1 : Int)) = dlt := ⟨_, rfl⟩
            cases dlt
            all_goals
              simp only [decide_eq_true_eq, decide_eq_false_iff_not] at hdlt
              refine amStr (h := ?_)
              refine amReg PT112_ok (h := ?_)
              refine amStr (h := ?_)
              refine ⟨rfl, fun c Q' k => s_weakI hI0 _ ?_ k⟩
              (refine weakI_of (fun i => i) ⟨rfl, ?_, ?_, ?_⟩ ?_ <;> ((try simp only [List.mem_cons, List.not_mem_nil, or_false, forall_eq_or_imp, forall_eq]); (try simp (disch := omega) [lk, AV.ids, idsL, idsLL, AV.ren, renL, renLL, i64w, *])))
        obtain ⟨ts, a2, bd2⟩ := T
        dsimp only at hx t1 t2 t3 t4 i1 i2 i3 i4 ⊢
        clear hT
        obtain ⟨cn3, hcn3, hnum3⟩ := fnumber_lend b (a2, bd2) hb hlB t1
        obtain ⟨u4, _, u6, _⟩ := nfR_ok b (a2, bd2) t1
        obtain ⟨I, hI⟩ : ∃ I, iF b (a2, bd2) = I := ⟨_, rfl⟩
        rw [hI] at hx i1 i2 i3
        unfold iF at hI
        obtain ⟨⟨m2, a3, bd3⟩, hM3⟩ : ∃ X, nfR b (a2, bd2) = X := ⟨_, rfl⟩
        rw [hM3] at hnum3 hI u4 u6 i2 i4
        dsimp only at hnum3 hI u4 u6 i2 i4
        clear hM3
        refine amStr (h := ?_)
        refine s_regionL ?_
        ((iterate 1 (((with_reducible refine spl_step TT_ok PT112_ok (id := 0) (σ' := ?_) ?_ ?_); rotate_left; (focus (simp [*]; rfl))))))
        refine spl_lendR TT_ok 7 (f := 68) (avs := [.ptr 7 0 0]) (L := [.ptr 7 0 0]) rfl rfl rfl rfl rfl (by kernel_rfl) Try.func68 hcn3 (by simp [Try.ntmps68]) (by simp [lk, fO]) (fun q hq => by simpa [idsL, AV.ids] using hq) (ids_fO _ _) rfl hnum3 ?_
        unfold fO
        clear hnum3 hcn3
        (refine spl_eq (τ := ?_) ?_ ?_; rotate_left; (focus ((try simp only [AS.frz, List.map_cons, List.map_nil]); (try simp [frzV, frzO, frzC, List.filter]); rfl)))
        ((iterate 1 (((with_reducible refine spl_step TT_ok PT112_ok (id := 0) (σ' := ?_) ?_ ?_); rotate_left; (focus (simp [*]; rfl))))))
        refine spl_nil ?_
        refine amStr (h := ?_)
        refine amReg PT112_ok (h := ?_)
        refine amStr (h := ?_)
        refine amReg PT112_ok (h := ?_)
        refine k_seq ?_
        refine s_cutK ⟨119, [(0, .sl 1 (b.map fun x => [.v (.int .u8 x)])), (4, .ptr 7 0 0), (5, .v (.int .i64 (n : Int))), (6, .ref 60 0 out.length), (7, .v (.int .i64 (out.length : Int))), (8, .ptr 205 0 0)], [(7, ⟨94, 3, [[.sl 1 (b.map fun x => [.v (.int .u8 x)]), .v (.int .i64 (I.2.2.1 : Int)), .v (.bool I.2.2.2)]]⟩), (60, ⟨27, 2, out.map fun p => [aInts p.1, aInts p.2]⟩), (205, ⟨27, 2, [[.ref 50 0 ts.length, .ref 51 0 I.1.length]]⟩), (50, ⟨3, 1, ts.map fun x => [.v (.int .i64 x)]⟩), (51, ⟨3, 1, I.1.map fun x => [.v (.int .i64 x)]⟩)], [51, 50, 205, 60, 7]⟩ ?_ ?_
        · refine amStr (h := ?_)
          refine s_loop (J := fun y : {y : List Int × Int × Nat × Bool // rdLoop (ixF b) (fun s => s.2.2) (m2 - y.1.length) y.1 y.2 = I ∧ y.2.2.1 ≤ b.length ∧ y.1.length ≤ m2 ∧ y.1.length ≤ capF y.2.2 ∧ 0 ≤ y.2.1 ∧ y.2.1 ≤ (y.1.length : Int) * 268435456} => ⟨119, [(0, .sl 1 (b.map fun x => [.v (.int .u8 x)])), (4, .ptr 7 0 0), (5, .v (.int .i64 (n : Int))), (6, .ref 60 0 out.length), (7, .v (.int .i64 (out.length : Int))), (8, .ptr 205 0 0), (9, .v (.int .i64 (m2 : Int))), (12, .v (.int .i64 y.1.2.1)), (13, .v (.int .i64 (y.1.1.length : Int)))], [(7, ⟨94, 3, [[.sl 1 (b.map fun x => [.v (.int .u8 x)]), .v (.int .i64 (y.1.2.2.1 : Int)), .v (.bool y.1.2.2.2)]]⟩), (60, ⟨27, 2, out.map fun p => [aInts p.1, aInts p.2]⟩), (205, ⟨27, 2, [[.ref 50 0 ts.length, .ref 51 0 y.1.1.length]]⟩), (50, ⟨3, 1, ts.map fun x => [.v (.int .i64 x)]⟩), (51, ⟨3, 1, y.1.1.map fun x => [.v (.int .i64 x)]⟩)], [51, 50, 205, 60, 7]⟩) (μ := fun y => m2 - y.1.1.length) ⟨([], 0, a3, bd3), hI, u6, Nat.zero_le _, Nat.zero_le _, Int.le_refl 0, by simp⟩ ?_ (fun ⟨⟨us, la, e, be⟩, hy, he, hum, huc, hla0, hla1⟩ => ?_)
          · (refine weak_id rfl ?_ ?_ <;> ((try simp only [List.mem_cons, List.not_mem_nil, or_false, forall_eq_or_imp, forall_eq]); (try simp (disch := omega) [i64w, *])))
          dsimp only at hy he hum huc hla0 hla1
          dsimp only
          have huc2 := capF_le (b := b) (s := (e, be)) he
          cases be
          · by_cases hum2 : us.length < m2
            · have hum3 : (us.length : Int) < (m2 : Int) := by omega
              obtain ⟨g, hg⟩ : ∃ g, m2 - us.length = g + 1 := ⟨m2 - us.length - 1, by omega⟩
              rw [hg, rdLoop, if_neg (by simp)] at hy
              obtain ⟨cn2, hcn2, hnum2⟩ := fnumber_lend b (e, false) hb hlB he
              obtain ⟨r1, _, r3, _⟩ := nfR_ok b (e, false) he
              have r5 := nfR_cap b (e, false) he rfl
              have hix : ixF b (la, e, false) = (la + ((nfR b (e, false)).1 : Int), la + ((nfR b (e, false)).1 : Int), (nfR b (e, false)).2) := rfl
              rw [hix] at hy
              clear hix
              obtain ⟨⟨x, e2, be2⟩, hX2⟩ : ∃ X, nfR b (e, false) = X := ⟨_, rfl⟩
              rw [hX2] at hnum2 hy r1 r3 r5
              dsimp only at hnum2 hy r1 r3 r5
              clear hX2
              have hwx : IntKind.i64.wrap (la + (x : Int)) = la + (x : Int) := i64w (by omega) (by omega)
              have hcap : us.length + 1 ≤ 140737488355328 := by omega
              have hcap8 : (us.length + 1) * 8 ≤ 140737488355328 := by omega
              have hwu : IntKind.i64.wrap ((us.length : Int) + 1) = (us.length : Int) + 1 := i64s _ (by omega)
              refine amStr (h := ?_)
              refine amReg PT112_ok (h := ?_)
              refine amStr (h := ?_)
              refine s_regionL ?_
              ((iterate 2 (((with_reducible refine spl_step TT_ok PT112_ok (id := 0) (σ' := ?_) ?_ ?_); rotate_left; (focus (simp [*]; rfl))))))
              refine spl_lendR TT_ok 7 (f := 68) (avs := [.ptr 7 0 0]) (L := [.ptr 7 0 0]) rfl rfl rfl rfl rfl (by kernel_rfl) Try.func68 hcn2 (by simp [Try.ntmps68]) (by simp [lk, fO]) (fun q hq => by simpa [idsL, AV.ids] using hq) (ids_fO _ _) rfl hnum2 ?_
              unfold fO
              clear hnum2 hcn2
              (refine spl_eq (τ := ?_) ?_ ?_; rotate_left; (focus ((try simp only [AS.frz, List.map_cons, List.map_nil]); (try simp [frzV, frzO, frzC, List.filter]); rfl)))
              ((iterate 2 (((with_reducible refine spl_step TT_ok PT112_ok (id := 0) (σ' := ?_) ?_ ?_); rotate_left; (focus (simp [*]; rfl))))))
              refine spl_nil ?_
              refine amStr (h := ?_)
              refine s_regionL ?_
              ((iterate 3 (((with_reducible refine spl_step TT_ok PT112_ok (id := 0) (σ' := ?_) ?_ ?_); rotate_left; (focus (simp [*]; rfl))))))
              (((with_reducible refine spl_step TT_ok PT112_ok (id := 52) (σ' := ?_) ?_ ?_); rotate_left; (focus (simp [*]; rfl))))
              (((with_reducible refine spl_step TT_ok PT112_ok (id := 53) (σ' := ?_) ?_ ?_); rotate_left; (focus (simp [*]; rfl))))
              ((iterate 2 (((with_reducible refine spl_step TT_ok PT112_ok (id := 0) (σ' := ?_) ?_ ?_); rotate_left; (focus (simp [*]; rfl))))))
              refine spl_nil ?_
              refine amStr (h := ?_)
              refine amReg PT112_ok (h := ?_)
              refine amStr (h := ?_)
              refine k_lp (⟨(us ++ [la + (x : Int)], la + (x : Int), e2, be2), by dsimp only; rw [List.length_append, show m2 - (us.length + [la + (x : Int)].length) = g by simp; omega]; exact hy, r3, by simp; omega, by dsimp only; rw [List.length_append, List.length_singleton]; omega, by dsimp only; omega, by dsimp only; rw [List.length_append, List.length_singleton]; omega⟩ : {y : List Int × Int × Nat × Bool // rdLoop (ixF b) (fun s => s.2.2) (m2 - y.1.length) y.1 y.2 = I ∧ y.2.2.1 ≤ b.length ∧ y.1.length ≤ m2 ∧ y.1.length ≤ capF y.2.2 ∧ 0 ≤ y.2.1 ∧ y.2.1 ≤ (y.1.length : Int) * 268435456}) (by simp; omega) ?_
              dsimp only
              (refine weak_of (fun q => if q = 51 then 53 else q) ⟨rfl, ?_, ?_, ?_⟩ <;> ((try simp only [List.mem_cons, List.not_mem_nil, or_false, forall_eq_or_imp, forall_eq]); (try simp (disch := omega) [lk, AV.ids, idsL, idsLL, AV.ren, renL, renLL, i64w, *])))
            · have hum3 : ¬ ((us.length : Int) < (m2 : Int)) := by omega
              have hIo : I = (us, la, e, false) := by rw [← hy, show m2 - us.length = 0 by omega]; rfl
              subst hIo
              refine amStr (h := ?_)
              refine amReg PT112_ok (h := ?_)
              refine amStr (h := ?_)
              refine ⟨rfl, fun c Q' k => s_weakI hI0 _ ?_ k⟩
              (refine weakI_of (fun i => i) ⟨rfl, ?_, ?_, ?_⟩ ?_ <;> ((try simp only [List.mem_cons, List.not_mem_nil, or_false, forall_eq_or_imp, forall_eq]); (try simp (disch := omega) [lk, AV.ids, idsL, idsLL, AV.ren, renL, renLL, i64w, *])))
          · rw [rdLoop_end rfl] at hy
            subst hy
            obtain ⟨dlt, hdlt⟩ : ∃ dlt, decide ((us.length : Int) < (m2 : Int)) = dlt := ⟨_, rfl⟩
            cases dlt
            all_goals
              simp only [decide_eq_true_eq, decide_eq_false_iff_not] at hdlt
              refine amStr (h := ?_)
              refine amReg PT112_ok (h := ?_)
              refine amStr (h := ?_)
              refine ⟨rfl, fun c Q' k => s_weakI hI0 _ ?_ k⟩
              (refine weakI_of (fun i => i) ⟨rfl, ?_, ?_, ?_⟩ ?_ <;> ((try simp only [List.mem_cons, List.not_mem_nil, or_false, forall_eq_or_imp, forall_eq]); (try simp (disch := omega) [lk, AV.ids, idsL, idsLL, AV.ren, renL, renLL, i64w, *])))
        obtain ⟨cs, la, a4, bd4⟩ := I
        dsimp only at hx i1 i2 i3 ⊢
        clear hI
        have hcap : out.length + 1 ≤ 140737488355328 := by omega
        have hcap48 : (out.length + 1) * 48 ≤ 140737488355328 := by omega
        have hwo : IntKind.i64.wrap ((out.length : Int) + 1) = (out.length : Int) + 1 := i64s _ (by omega)
        refine amStr (h := ?_)
        refine s_regionL ?_
        ((iterate 2 (((with_reducible refine spl_step TT_ok PT112_ok (id := 0) (σ' := ?_) ?_ ?_); rotate_left; (focus (simp [*]; rfl))))))
        (((with_reducible refine spl_step TT_ok PT112_ok (id := 54) (σ' := ?_) ?_ ?_); rotate_left; (focus (simp [*]; rfl))))
        (((with_reducible refine spl_step TT_ok PT112_ok (id := 55) (σ' := ?_) ?_ ?_); rotate_left; (focus (simp [*]; rfl))))
        ((iterate 1 (((with_reducible refine spl_step TT_ok PT112_ok (id := 0) (σ' := ?_) ?_ ?_); rotate_left; (focus (simp [*]; rfl))))))
        refine spl_nil ?_
        refine amStr (h := ?_)
        refine s_frz (fun q => q == 50 || q == 51) ?_
        (refine s_eq (τ := ?_) ?_ ?_; rotate_left; (focus ((try simp only [AS.frz, List.map_cons, List.map_nil]); (try simp [frzV, frzO, frzC, List.filter]); rfl)))
        refine amStr (h := ?_)
        refine amReg PT112_ok (h := ?_)
        refine amStr (h := ?_)
        refine k_lp (⟨(out ++ [(ts, cs)], a4, bd4), by dsimp only; rw [List.length_append, show n - (out.length + [(ts, cs)].length) = f by simp; omega]; exact hx, i1, by simp; omega, by dsimp only; rw [List.length_append, List.length_singleton]; omega⟩ : {x : List Cl × Nat × Bool // rdLoop (clF b) (fun s => s.2) (n - x.1.length) x.1 x.2 = D ∧ x.2.1 ≤ b.length ∧ x.1.length ≤ n ∧ x.1.length ≤ capF x.2}) (by simp; omega) ?_
        dsimp only
        (refine weak_of (fun q => if q = 60 then 55 else q) ⟨rfl, ?_, ?_, ?_⟩ <;> ((try simp only [List.mem_cons, List.not_mem_nil, or_false, forall_eq_or_imp, forall_eq]); (try simp (disch := omega) [lk, AV.ids, idsL, idsLL, AV.ren, renL, renLL, i64w, *])))

      · have hlt1 : ¬ ((out.length : Int) < (n : Int)) := by omega
        have hDo : D = (out, a, false) := by rw [← hx, show n - out.length = 0 by omega]; rfl
        subst hDo
        refine amStr (h := ?_)
        refine amReg PT112_ok (h := ?_)
        refine amStr (h := ?_)
        refine ⟨rfl, fun c Q' k => s_weakI hI0 _ ?_ k⟩
        (refine weakI_of (fun i => i) ⟨rfl, ?_, ?_, ?_⟩ ?_ <;> ((try simp only [List.mem_cons, List.not_mem_nil, or_false, forall_eq_or_imp, forall_eq]); (try simp (disch := omega) [lk, AV.ids, idsL, idsLL, AV.ren, renL, renLL, i64w, *])))
    · rw [rdLoop_end rfl] at hx
      subst hx
      obtain ⟨dlt, hdlt⟩ : ∃ dlt, decide ((out.length : Int) < (n : Int)) = dlt := ⟨_, rfl⟩
      cases dlt
      all_goals
        simp only [decide_eq_true_eq, decide_eq_false_iff_not] at hdlt
        refine amStr (h := ?_)
        refine amReg PT112_ok (h := ?_)
        refine amStr (h := ?_)
        refine ⟨rfl, fun c Q' k => s_weakI hI0 _ ?_ k⟩
        (refine weakI_of (fun i => i) ⟨rfl, ?_, ?_, ?_⟩ ?_ <;> ((try simp only [List.mem_cons, List.not_mem_nil, or_false, forall_eq_or_imp, forall_eq]); (try simp (disch := omega) [lk, AV.ids, idsL, idsLL, AV.ren, renL, renLL, i64w, *])))
  clear hX
  obtain ⟨l, a9, bd9⟩ := D
  dsimp only at hok hln ⊢
  have hby := fullB_by l
  refine s_frz (fun q => q == 60) ?_
  (refine s_eq (τ := ?_) ?_ ?_; rotate_left; (focus ((try simp only [AS.frz, List.map_cons, List.map_nil]); (try simp [frzV, frzO, frzC, List.filter]); rfl)))
  by_cases hf : l.all clG = false
  · have hE : encF l = .tup [.v (.slice none 0 0), .v (.int .i64 1)] := by unfold encF; rw [if_neg (by omega), if_pos hf]
    rw [if_neg (fun h => by rw [hf] at h; cases h.2.1)]
    cases bd9
    all_goals
      refine amStr (h := ?_)
      refine amReg PT112_ok (h := ?_)
      refine amStr (h := ?_)
      refine amReg PT112_ok (h := ?_)
      refine amStr (h := ?_)
      refine amReg PT112_ok (h := ?_)
      refine amStr (h := ?_)
      ((refine post_ret (av := ?_) (by first | exact .inl rfl | exact .inr rfl) (show (Try.f39).results.toList = _ from by rw [Try.results39]) ?_ ?_); rotate_left; (focus (simp [retA, retL, ret1, lk, st, ldA, AV.cell]; rfl)); (try simp [*]))
  · have hf2 : l.all clG = true := by simpa using hf
    by_cases hfb : fullB l = b
    · have hE : encF l = .tup [aB b, .v (.int .i64 0)] := by unfold encF; rw [if_neg (by omega), if_neg hf, if_neg (by rw [hfb]; omega), hfb]
      unfold aB at hE
      cases bd9
      · rw [if_pos ⟨rfl, hf2, hfb⟩]
        unfold aCls
        refine amStr (h := ?_)
        refine amReg PT112_ok (h := ?_)
        refine amStr (h := ?_)
        refine amReg PT112_ok (h := ?_)
        refine amStr (h := ?_)
        refine amReg PT112_ok (h := ?_)
        refine amStr (h := ?_)
        ((refine post_ret (av := ?_) (by first | exact .inl rfl | exact .inr rfl) (show (Try.f39).results.toList = _ from by rw [Try.results39]) ?_ ?_); rotate_left; (focus (simp [retA, retL, ret1, lk, st, ldA, AV.cell]; rfl)); (try simp [*]))
      · rw [if_neg (fun h => by cases h.1)]
        refine amStr (h := ?_)
        refine amReg PT112_ok (h := ?_)
        refine amStr (h := ?_)
        refine amReg PT112_ok (h := ?_)
        refine amStr (h := ?_)
        refine amReg PT112_ok (h := ?_)
        refine amStr (h := ?_)
        ((refine post_ret (av := ?_) (by first | exact .inl rfl | exact .inr rfl) (show (Try.f39).results.toList = _ from by rw [Try.results39]) ?_ ?_); rotate_left; (focus (simp [retA, retL, ret1, lk, st, ldA, AV.cell]; rfl)); (try simp [*]))
    · rw [if_neg (fun h => hfb h.2.2)]
      by_cases hmb : maxB < (fullB l).length
      · have hE : encF l = .tup [.v (.slice none 0 0), .v (.int .i64 2)] := by unfold encF; rw [if_neg (by omega), if_neg hf, if_pos hmb]
        cases bd9
        all_goals
          refine amStr (h := ?_)
          refine amReg PT112_ok (h := ?_)
          refine amStr (h := ?_)
          refine amReg PT112_ok (h := ?_)
          refine amStr (h := ?_)
          refine amReg PT112_ok (h := ?_)
          refine amStr (h := ?_)
          ((refine post_ret (av := ?_) (by first | exact .inl rfl | exact .inr rfl) (show (Try.f39).results.toList = _ from by rw [Try.results39]) ?_ ?_); rotate_left; (focus (simp [retA, retL, ret1, lk, st, ldA, AV.cell]; rfl)); (try simp [*]))
      · have hE : encF l = .tup [aB (fullB l), .v (.int .i64 0)] := by unfold encF; rw [if_neg (by omega), if_neg hf, if_neg hmb]
        unfold aB at hE
        have hst : strOfNums (fullB l) ≠ strOfNums b := fun h => hfb (strOf_inj hby hb h)
        have hst2 : ((strOfNums (fullB l)).data == (strOfNums b).data) = false := by rw [beq_eq_false_iff_ne]; exact fun h => hst (ByteArray.ext h)
        cases bd9
        all_goals
          refine amStr (h := ?_)
          refine amReg PT112_ok (h := ?_)
          refine amStr (h := ?_)
          refine amReg PT112_ok (h := ?_)
          refine amStr (h := ?_)
          refine amReg PT112_ok (h := ?_)
          refine amStr (h := ?_)
          ((refine post_ret (av := ?_) (by first | exact .inl rfl | exact .inr rfl) (show (Try.f39).results.toList = _ from by rw [Try.results39]) ?_ ?_); rotate_left; (focus (simp [retA, retL, ret1, lk, st, ldA, AV.cell]; rfl)); (try simp [*]))
end Go.Proofs.Ythdjgcjpolpgdaa
