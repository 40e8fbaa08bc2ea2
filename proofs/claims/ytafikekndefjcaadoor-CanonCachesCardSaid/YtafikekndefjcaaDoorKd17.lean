/- The cache in memory; drop; no condition. -/
import Derived.Test.YtafikekndefjcaaDoorKc17
import Derived.Test.YtafikekndefjcaaDoorWa
import Derived.Test.YtafikekndefjcaaDoorCa17
namespace Go.Proofs.YtafikekndefjcaaDoor
set_option linter.unusedVariables false
set_option linter.unusedSimpArgs false
set_option linter.unusedSectionVars false
open Go.RowKit
attribute [local simp] List.getD_cons_zero List.getD_cons_succ List.getD_nil undef gvars runL runE effA stepA dstOk wantA core lk st dl AS.ev AS.evs AS.put AS.upd updO updI nxt cPick cAlloc cBox cBuild cBuildS cLoad cStore cNil plainOf cBin cNilS isNilS nilA cUn cConvX cConvB cConv bytesOf rowB cMake cSlice slA idxA cFA cF cIA cIX cIS cI cExt cLen cApp cMM cFun cCall lenA lenM isNilM nilM cNilM cMakeM hintB cMapK cLook foundR lookR cUpd putM cDel delM findA isKeyB Instr.sameNow AS.entry AS.bound AS.callee sc1 sc2 ixOk ldA AV.flat AV.cell AV.cells Value.oneCell' fillA spl chunk zeros AS.parts AS.rows AS.shut AS.shut1 AS.shut2 AS.shutL AS.shutM AV.ids idsL idsLL eqAll bndA AV.scalar AV.scalar1 AV.isV Ef.app Ef.pk ptOf pntO wrO wr
attribute [-simp] List.getD_eq_getElem?_getD
set_option maxRecDepth 100000
def csO (m r : Nat) (most used : Int) : AObj := ⟨73, 4, [[.v (.int .i64 most), .v (.int .i64 used), .mp m, .ptr r 0 0]]⟩
def mpR (nm : Nat → Nat) (es : List (List Int × Int)) : List (List AV) := es.mapIdx fun j e => [AV.v (.string (strOfNums e.1)), .ptr (nm (j + 1)) 0 0]
def mpO (nm : Nat → Nat) (es : List (List Int × Int)) : AObj := ⟨70, 0, mpR nm es⟩
def enZ (es : List (List Int × Int)) (j : Nat) : List Int × Int := if j = 0 then ([], 0) else es.getD (j - 1) ([], 0)
structure CacheAt (O : List (Nat × AObj)) (I : List Nat) (c m : Nat) (nm : Nat → Nat) (most : Int) (es : List (List Int × Int)) : Prop where
  hc : lk O c = some (csO m (nm 0) most (useZ es : Int))
  hm : lk O m = some (mpO nm es)
  ring : RingAt O es.length nm (enZ es)
  cm : c ≠ m
  cn : ∀ j, j ≤ es.length → nm j ≠ c ∧ nm j ≠ m
  ic : c ∈ I
  im : m ∈ I
  inn : ∀ j, j ≤ es.length → nm j ∈ I
  keys : es.Pairwise fun a b => a.1 ≠ b.1
  ok : ∀ e ∈ es, okB e.1 = true
  room : (useZ es : Int) ≤ most
  big : 0 ≤ most ∧ most ≤ 1073741824
theorem mpR_cons (nm : Nat → Nat) (e : List Int × Int) (es : List (List Int × Int)) : mpR nm (e :: es) = [AV.v (.string (strOfNums e.1)), .ptr (nm 1) 0 0] :: mpR (fun j => nm (j + 1)) es := by unfold mpR; rw [List.mapIdx_cons]
theorem mpR_len (nm : Nat → Nat) (es : List (List Int × Int)) : (mpR nm es).length = es.length := by unfold mpR; simp
theorem mpR_get {nm : Nat → Nat} {es : List (List Int × Int)} {j : Nat} (h : j < es.length) : (mpR nm es).getD j [] = [AV.v (.string (strOfNums (es.getD j ([], 0)).1)), .ptr (nm (j + 1)) 0 0] := by
  unfold mpR
  simp [List.getD, h]
theorem mpR_snoc (nm : Nat → Nat) (es : List (List Int × Int)) (e : List Int × Int) : mpR nm (es ++ [e]) = mpR nm es ++ [[AV.v (.string (strOfNums e.1)), .ptr (nm (es.length + 1)) 0 0]] := by unfold mpR; simp [List.mapIdx_append]
theorem mpR_congr {nm nm' : Nat → Nat} {es : List (List Int × Int)} (h : ∀ j, j < es.length → nm (j + 1) = nm' (j + 1)) : mpR nm es = mpR nm' es := by
  unfold mpR
  apply List.ext_getElem
  · simp
  · intro j h1 h2
    simp only [List.getElem_mapIdx]
    rw [h j (by simpa using h1)]
theorem mpR_erase (nm : Nat → Nat) : ∀ (es : List (List Int × Int)) (nm : Nat → Nat) (i : Nat), i < es.length → (mpR nm es).eraseIdx i = mpR (wo nm (i + 1)) (es.eraseIdx i)
  | [], _, i, h => by simp at h
  | e :: es, nm, 0, _ => by
    rw [mpR_cons, List.eraseIdx_cons_zero, List.eraseIdx_cons_zero]
    exact mpR_congr fun j _ => by unfold wo; rw [if_neg (by omega)]
  | e :: es, nm, i + 1, h => by
    rw [mpR_cons, List.eraseIdx_cons_succ, List.eraseIdx_cons_succ, mpR_erase nm es _ i (by simpa using h), mpR_cons]
    have a1 : wo nm (i + 1 + 1) 1 = nm 1 := by unfold wo; rw [if_pos (by omega)]
    rw [a1]
    congr 1
    refine mpR_congr fun j _ => ?_
    unfold wo
    by_cases hj : j + 1 < i + 1
    · rw [if_pos hj, if_pos (by omega)]
    · rw [if_neg hj, if_neg (by omega)]
theorem str_size (k : List Int) : (strOfNums k).size = k.length := by unfold strOfNums ByteArray.size; simp
theorem same_str {a b : List Int} (ha : okB a = true) (hb : okB b = true) : Instr.sameNow .string (.string (strOfNums a)) (.string (strOfNums b)) = some (decide (a = b)) := by
  have : Instr.sameNow .string (.string (strOfNums a)) (.string (strOfNums b)) = some (strOfNums a == strOfNums b) := rfl
  rw [this]
  by_cases e : a = b
  · subst e; rw [(MapKept.bytes_beq _ _).2 rfl, decide_eq_true rfl]
  · rw [decide_eq_false e]
    congr 1
    rw [← Bool.not_eq_true, MapKept.bytes_beq]
    exact fun hh => e (strOf_inj ha hb hh)
def atZ (es : List (List Int × Int)) (k : List Int) : Option Nat := es.findIdx? fun e => decide (k = e.1)
theorem find_es {k : List Int} (hk : okB k = true) : ∀ (es : List (List Int × Int)) (nm : Nat → Nat) (i : Nat), (∀ e ∈ es, okB e.1 = true) → findA .string (.string (strOfNums k)) (mpR nm es) i = some ((atZ es k).map (· + i))
  | [], nm, i, _ => rfl
  | e :: es, nm, i, h => by
    rw [mpR_cons]
    unfold findA
    rw [same_str hk (h e List.mem_cons_self)]
    unfold atZ
    rw [List.findIdx?_cons]
    by_cases he : k = e.1
    · rw [decide_eq_true he]; simp
    · rw [decide_eq_false he]
      have ih := find_es hk es (fun j => nm (j + 1)) (i + 1) fun x hx => h x (List.mem_cons_of_mem _ hx)
      simp only
      rw [ih]
      unfold atZ
      cases es.findIdx? fun e => decide (k = e.1) with
      | none => rfl
      | some j => simp; omega
theorem atZ_at {es : List (List Int × Int)} (h : es.Pairwise fun a b => a.1 ≠ b.1) {j : Nat} (hj : j < es.length) : atZ es (es.getD j ([], 0)).1 = some j := by
  have e : es.getD j ([], 0) = es[j] := by simp [List.getD, hj]
  rw [e]
  unfold atZ
  rw [List.findIdx?_eq_some_iff_getElem]
  refine ⟨hj, by simp, fun i hi => ?_⟩
  have := List.pairwise_iff_getElem.1 h i j (by omega) hj hi
  simp only [Bool.not_eq_true, decide_eq_false_iff_not]
  exact fun e => this e.symm
theorem enZ_erase (es : List (List Int × Int)) {i : Nat} (h1 : 1 ≤ i) (h2 : i ≤ es.length) {j : Nat} (hj : j ≤ es.length - 1) : wo (enZ es) i j = enZ (es.eraseIdx (i - 1)) j := by
  unfold wo enZ
  by_cases h0 : j = 0
  · subst h0
    rw [if_pos (by omega)]
    rfl
  · by_cases hji : j < i
    · rw [if_pos hji, if_neg h0, if_neg h0]
      simp only [List.getD, List.getElem?_eraseIdx]
      rw [if_pos (by omega)]
    · rw [if_neg hji, if_neg (by omega), if_neg h0]
      simp only [List.getD, List.getElem?_eraseIdx]
      rw [if_neg (by omega), show j + 1 - 1 = j - 1 + 1 by omega]
theorem RingAt.congr {O : List (Nat × AObj)} {n : Nat} {nm : Nat → Nat} {en en' : Nat → List Int × Int} (h : RingAt O n nm en) (he : ∀ j, j ≤ n → en j = en' j) : RingAt O n nm en' := ⟨fun j hj => by rw [h.lk j hj, he j hj], h.inj⟩
theorem RingAt.mono {O O' : List (Nat × AObj)} {n : Nat} {nm : Nat → Nat} {en : Nat → List Int × Int} (h : RingAt O n nm en) (he : ∀ j, j ≤ n → _root_.Go.Proofs.YtafikekndefjcaaDoor.lk O' (nm j) = _root_.Go.Proofs.YtafikekndefjcaaDoor.lk O (nm j)) : RingAt O' n nm en := ⟨fun j hj => by rw [he j hj, h.lk j hj], h.inj⟩
theorem use_erase : ∀ (es : List (List Int × Int)) {i : Nat}, i < es.length → useZ (es.eraseIdx i) + entZ (es.getD i ([], 0)) = useZ es
  | [], i, h => by simp at h
  | e :: es, 0, _ => by rw [List.eraseIdx_cons_zero, List.getD_cons_zero, use_cons, Nat.add_comm]
  | e :: es, i + 1, h => by
    rw [List.eraseIdx_cons_succ, List.getD_cons_succ, use_cons, use_cons, ← use_erase es (i := i) (by simpa using h), Nat.add_assoc]
theorem wo_mem {nm : Nat → Nat} {i n j : Nat} (h1 : 1 ≤ i) (h2 : i ≤ n) (hj : j ≤ n - 1) : ∃ t, t ≤ n ∧ t ≠ i ∧ wo nm i j = nm t := by
  unfold wo
  split
  · exact ⟨j, by omega, by omega, rfl⟩
  · exact ⟨j + 1, by omega, by omega, rfl⟩
theorem CacheAt.mono {O O' : List (Nat × AObj)} {I I' : List Nat} {c m : Nat} {nm : Nat → Nat} {most : Int} {es : List (List Int × Int)} (h : CacheAt O I c m nm most es) (hO : ∀ k ∈ I, lk O' k = lk O k) (hI : ∀ k ∈ I, k ∈ I') : CacheAt O' I' c m nm most es :=
  ⟨by rw [hO _ h.ic, h.hc], by rw [hO _ h.im, h.hm], h.ring.mono fun j hj => hO _ (h.inn j hj), h.cm, h.cn, hI _ h.ic, hI _ h.im, fun j hj => hI _ (h.inn j hj), h.keys, h.ok, h.room, h.big⟩
attribute [local simp] lk_st
set_option maxHeartbeats 2000000 in
theorem drop_raw {O : List (Nat × AObj)} {I : List Nat} {c m i : Nat} {nm : Nat → Nat} {most : Int} {es : List (List Int × Int)} (h : CacheAt O I c m nm most es) (h1 : 1 ≤ i) (h2 : i ≤ es.length) :
    ProcB Tryd.prog TT Go.Proofs.Tryd.f45 [.ptr c 0 0, .ptr (nm i) 0 0] O I (fun av O' I' => av = .tup [] ∧ I' = I ∧ ∃ O1, RingAt O1 (es.length - 1) (wo nm i) (wo (enZ es) i) ∧ (∀ k, (∀ t, t ≤ es.length → t ≠ i → k ≠ nm t) → lk O1 k = lk O k) ∧ O' = st (st O1 m ⟨70, 0, (mpR nm es).eraseIdx (i - 1)⟩) c (csO m (nm 0) most (useZ (es.eraseIdx (i - 1)) : Int))) := by
  have hue := use_erase es (i := i - 1) (by omega)
  obtain ⟨e, he⟩ : ∃ e, es.getD (i - 1) ([], 0) = e := ⟨_, rfl⟩
  have hz := atZ_at h.keys (j := i - 1) (by omega)
  rw [he] at hue hz
  have hem : e ∈ es := by
    rw [← he]
    have : es.getD (i - 1) ([], 0) = es[i - 1] := by simp [List.getD, show i - 1 < es.length by omega]
    rw [this]; exact List.getElem_mem _
  have hfd := find_es (h.ok e hem) es nm 0 h.ok
  rw [hz] at hfd
  have hfd2 : findA .string (.string (strOfNums e.1)) (mpR nm es) 0 = some (some (i - 1)) := hfd
  have hlk := h.ring.lk i h2
  have hen : enZ es i = e := by unfold enZ; rw [if_neg (by omega), he]
  rw [hen] at hlk
  have hLc : nm i ≠ c := (h.cn i h2).1
  have hLm : nm i ≠ m := (h.cn i h2).2
  have hcm := h.cm
  have hc := h.hc
  have hm := h.hm
  have hic := h.ic
  have him := h.im
  have hb1 := h.big.1
  have hb2 := h.big.2
  have hroom := h.room
  have hsz := str_size e.1
  have hent : entZ e = e.1.length + 16 := rfl
  have hI := h.inn
  have hR := h.ring
  have hcn := h.cn
  have hinj := h.ring.inj
  refine ⟨_, rfl, fun B hI0 hro => ?_⟩
  rw [Tryd.ntmps45, Tryd.results45]
  simp only [enumA]
  refine amStr (h := ?_)
  refine s_regionL ?_
  ((iterate 1 (((with_reducible refine spl_step TT_ok PTc_ok (id := 0) (σ' := ?_) ?_ ?_); rotate_left; (focus (simp [*]; rfl))))))
  refine spl_procB TT_ok rfl rfl rfl (by kernel_rfl) Tryd.func65 (avs := [.ptr (nm i) 0 0]) (cs := []) rfl rfl (by simp [Tryd.ntmps65]) (leave_proc hR h1 h2 hI) fun av O1 I1 hK => ?_
  obtain ⟨rfl, rfl, k1, k2⟩ := hK
  refine spl_nil ?_
  have g1 : lk O1 c = some (csO m (nm 0) most (useZ es : Int)) := by rw [k2 c fun t ht _ e => (hcn t ht).1 e.symm, hc]
  have g2 : lk O1 m = some (mpO nm es) := by rw [k2 m fun t ht _ e => (hcn t ht).2 e.symm, hm]
  have g3 : lk O1 (nm i) = some (lnkO (nm (prv es.length i)) (nm (nxl es.length i)) e) := by rw [k2 (nm i) fun t ht hti e => hti (hinj _ _ h2 ht e).symm, hlk]
  obtain ⟨L, hLe⟩ : ∃ L, nm i = L := ⟨_, rfl⟩
  obtain ⟨M, hM⟩ : ∃ M, mpR nm es = M := ⟨_, rfl⟩
  unfold csO at g1
  unfold mpO at g2
  unfold lnkO at g3
  rw [hLe] at g3 hLc hLm
  rw [hM] at g2 hfd2
  obtain ⟨U, hU⟩ : ∃ U : Int, (useZ es : Int) = U := ⟨_, rfl⟩
  obtain ⟨V, hV⟩ : ∃ V : Int, (useZ (es.eraseIdx (i - 1)) : Int) = V := ⟨_, rfl⟩
  rw [hU] at g1
  have hUV : U = V + ((e.1.length : Int) + 16) := by rw [← hU, ← hV]; omega
  have hU1 : U ≤ 1073741824 := by omega
  have hV1 : 0 ≤ V := by omega
  have hw1 : IntKind.i64.wrap ((e.1.length : Int) + 16) = (e.1.length : Int) + 16 := i64w (by omega) (by omega)
  have hw2 : IntKind.i64.wrap (U - ((e.1.length : Int) + 16)) = V := by rw [show U - ((e.1.length : Int) + 16) = V by omega]; exact i64w (by omega) (by omega)
  rw [hLe]
  have hcm2 := hcm.symm
  have hLc2 := hLc.symm
  have hLm2 := hLm.symm
  have K1 := Lib.hid k1
  have K2 := Lib.hid k2
  have HV := Lib.hid hV
  have HM := Lib.hid hM
  clear k1 k2 hV hM hUV hU hlk hen hz hfd hc hm hR hI hcn hinj h hue he hem hroom hent hLe h2 hb1 hb2
  refine amStr (h := ?_)
  refine amDrw PTc_ok (h := ?_)
  refine amStr (h := ?_)
  refine amDrw PTc_ok (h := ?_)
  refine amStr (h := ?_)
  refine ⟨.inl rfl, _, rfl, rfl, ?_, O1, K1.out, K2.out, ?_⟩
  · simp [*]
  · rw [HV.out, HM.out]
    unfold csO
    simp [*]
end Go.Proofs.YtafikekndefjcaaDoor
