/- censusref04.In, Holds: rows; no condition. -/
import Derived.Test.YtecdhmiamlgibaaDoorQsG
import Derived.Test.YtecdhmiamlgibaaDoorWl
import Derived.Test.YtecdhmiamlgibaaDoorSuG
/- Qq39: censusref04.In, Holds: rows; no condition. -/
namespace Go.Proofs.YtecdhmiamlgibaaDoor
set_option linter.unusedVariables false
set_option linter.unusedSimpArgs false
set_option linter.unusedSectionVars false
open Go.RowKit
set_option maxRecDepth 100000
@[simp] def g_r4In : List AV → Option (AV × Bool)
 | [a0, .v (.int .i64 v)] => (match toSet a0 with | some s => if (okI v && (decide (1 ≤ v) && decide (v ≤ 128))) = true then some (.v (.bool (sHas s v)), true) else none | none => none)
 | _ => none
theorem e_r4In : EntOk Tryd.prog 125 g_r4In := ent_fresh (by kernel_rfl) fun args r fr h => by
 unfold g_r4In at h
 split at h
 ·rename_i a0 v
  split at h
  ·rename_i s t0
   split at h
   ·rename_i hc
    simp only [Bool.and_eq_true] at hc
    obtain ⟨o1, hk⟩ := hc
    cases h
    exact fresh_gives (fun G => .v _) fun S w vs hS hn hv => by
     obtain ⟨u0, u1, rfl, r0, r1⟩ := args2 hn hv
     have q0 := toSet_rv t0 r0
     subst q0
     have q1 := r1.v_eq
     subst q1
     exact ref04In_c s v w (by simp at hk; exact hk.1) (by simp at hk; exact hk.2)
   ·cases h
  ·cases h
 ·cases h

@[simp] def g_r4Hol : List AV → Option (AV × Bool)
 | [a0, .v (.int .i64 l)] => (match toSet a0 with | some s => if (okI l) = true then some (.v (.bool (litHolds s l)), true) else none | none => none)
 | _ => none
theorem e_r4Hol : EntOk Tryd.prog 122 g_r4Hol := ent_fresh (by kernel_rfl) fun args r fr h => by
 unfold g_r4Hol at h
 split at h
 ·rename_i a0 l
  split at h
  ·rename_i s t0
   split at h
   ·rename_i hc
    have o1 := hc
    cases h
    exact fresh_gives (fun G => .v _) fun S w vs hS hn hv => by
     obtain ⟨u0, u1, rfl, r0, r1⟩ := args2 hn hv
     have q0 := toSet_rv t0 r0
     subst q0
     have q1 := r1.v_eq
     subst q1
     exact ref04Holds_c s l w (okI_iff.1 o1)
   ·cases h
  ·cases h
 ·cases h

def l169 : List (FuncId × (List AV → Option (AV × Bool))) :=
 (125, g_r4In) :: (122, g_r4Hol) :: l168
theorem l169_ok : ∀ p ∈ l169, EntOk Tryd.prog p.1 p.2 := ent_cons e_r4In (ent_cons e_r4Hol (l168_ok))
def PT169 : PTab := tab l169
theorem PT169_ok : PTok Tryd.prog PT169 := tab_ok l169_ok
@[simp] theorem PT169_r4In : PT169 125 = g_r4In := rfl
@[simp] theorem PT169_r4Hol : PT169 122 = g_r4Hol := rfl
@[simp] theorem PT169_old (f : FuncId) (h : decide (f ≠ 125 ∧ f ≠ 122) = true) : PT169 f = PT168 f := (fun h => Eq.trans (tab_old h.1) (tab_old h.2)) (of_decide_eq_true h)
end Go.Proofs.YtecdhmiamlgibaaDoor
/- Qr39: censusref20.Truth; no condition. -/
namespace Go.Proofs.YtecdhmiamlgibaaDoor
set_option linter.unusedVariables false
set_option linter.unusedSimpArgs false
set_option linter.unusedSectionVars false
open Go.RowKit
open Wlk
attribute [-simp] List.getD_eq_getElem?_getD
set_option maxRecDepth 100000
theorem bget {A : List Bool} {k : Nat} (hk : k < A.length) : (A.map fun b => [AV.v (.bool b)]).getD k [] = [.v (.bool (A.getD k false))] := by simp [List.getD, hk]
theorem bids (A : List Bool) : idsLL (A.map fun b => [AV.v (.bool b)]) = [] := by
 induction A with
 | nil => rfl
 | cons b A ih => simp [idsLL, idsL, AV.ids, ih]
theorem form_kind {x : Nd} {n i : Int} (h : formB x n i = true) : x.1 = 0 ∨ x.1 = 1 ∨ x.1 = 2 ∨ x.1 = 3 ∨ x.1 = 4 := by
 unfold formB at h
 rw [Bool.and_eq_true] at h
 have h2 := h.2
 split at h2
 ·rename_i h3; omega
 ·split at h2
  ·rename_i h3; omega
  ·split at h2
   ·rename_i h3; omega
   ·cases h2
theorem form_in0 {x : Nd} {n i : Int} (h : formB x n i = true) (hk : x.1 = 0 ∨ x.1 = 1 ∨ x.1 = 2) : x.2.2 = [] := by
 unfold formB at h
 rw [Bool.and_eq_true] at h
 have h2 := h.2
 split at h2
 ·rw [Bool.and_eq_true, decide_eq_true_eq, decide_eq_true_eq] at h2; exact List.eq_nil_of_length_eq_zero h2.2
 ·rw [if_pos (by omega), Bool.and_eq_true, decide_eq_true_eq] at h2; exact List.eq_nil_of_length_eq_zero h2.2
theorem litV_holds (s : BitVec 128) (l : Int) : litV s l = litHolds s l := by
 unfold litV litHolds
 have := litVar_range l
 split
 ·rename_i h; rw [h]; rfl
 ·rw [decide_eq_true (by omega : 0 < litVar l), Bool.true_and]
theorem s_cutZ {P : Program} {B : Base} {x y : Code} {σ : AS} {Q : Exit → AS → Prop} (S : AS) (h : SP P B x σ (fun e τ => e = .normal ∧ ∀ c Q', SP P B c S Q' → SP P B c τ Q')) (k : SP P B y S Q) : SP P B x σ (Kseq P B y Q) :=
 sp_mono h fun e τ h => by obtain ⟨rfl, h⟩ := h; exact k_seq (h y Q k)
theorem gmemZ {xs : List Int} {j : Nat} (hj : j < xs.length) : xs.getD j 0 ∈ xs := by
 have : xs.getD j 0 = xs[j] := by simp [List.getD, hj]
 rw [this]; exact List.getElem_mem hj
@[simp ↓ high] theorem d_idsLL_bl (l : List Bool) : idsLL (l.map fun b => [AV.v (.bool b)]) = [] := bids l
@[simp ↓ high] theorem d_ren_bl (ρ : Nat → Nat) (l : List Bool) : renLL ρ (l.map fun b => [AV.v (.bool b)]) = l.map fun b => [AV.v (.bool b)] := renLL_pure ρ _ (bids l)
def accB (s : BitVec 128) (x : Nd) (out : List Bool) (j : Nat) : Bool :=
 if x.1 = 3 then (x.2.2.take j).all (fun k => out.getD k.toNat false) else (decide (x.1 = 1) || (decide (x.1 = 2) && litHolds s x.2.1)) || (x.2.2.take j).any fun k => out.getD k.toNat false
theorem accB_and {s : BitVec 128} {x : Nd} {out : List Bool} {j : Nat} (hj : j < x.2.2.length) (hk : x.1 = 3) : accB s x out (j + 1) = (accB s x out j && out.getD (x.2.2.getD j 0).toNat false) := by
 unfold accB
 have e : x.2.2.getD j 0 = x.2.2[j] := by simp [List.getD, hj]
 rw [if_pos hk, if_pos hk, List.take_succ_eq_append_getElem hj, List.all_append, e]; simp
theorem accB_or {s : BitVec 128} {x : Nd} {out : List Bool} {j : Nat} (hj : j < x.2.2.length) (hk : x.1 ≠ 3) : accB s x out (j + 1) = (accB s x out j || out.getD (x.2.2.getD j 0).toNat false) := by
 unfold accB
 have e : x.2.2.getD j 0 = x.2.2[j] := by simp [List.getD, hj]
 rw [if_neg hk, if_neg hk, List.take_succ_eq_append_getElem hj, List.any_append, e]; simp [Bool.or_assoc]
theorem accB_all {s : BitVec 128} {x : Nd} {n i : Int} (hf : formB x n i = true) (out : List Bool) : accB s x out x.2.2.length = nodeV s x out := by
 unfold accB nodeV
 rw [List.take_length]
 rcases form_kind hf with e | e | e | e | e
 ·rw [form_in0 hf (.inl e), e]; simp
 ·rw [form_in0 hf (.inr (.inl e)), e]; simp
 ·rw [form_in0 hf (.inr (.inr e)), e, litV_holds]; simp
 ·rw [e]; simp
 ·rw [e]; simp
theorem valsL_lenT (s : BitVec 128) (ns : List Nd) {k : Nat} (hk : k ≤ ns.length) : (valsL s (ns.take k)).length = k := scanN_lenT (nodeV s) ns k hk
theorem valsL_take {N : Int} {s : BitVec 128} {ns : List Nd} (hv : validN N ns = true) {k : Nat} (hk : k < ns.length) : valsL s (ns.take (k + 1)) = valsL s (ns.take k) ++ [accB s (ns.getD k nd0) (valsL s (ns.take k)) (ns.getD k nd0).2.2.length] := by
 unfold valsL
 rw [scanN_take (nodeV s) hk, accB_all (valid_form hv hk)]
def boolsV (l : List Bool) : AV := .sl 1 (l.map fun b => [.v (.bool b)])
set_option maxHeartbeats 4000000 in
theorem truth_p (N : Int) (ns : List Nd) (s : BitVec 128) (h : okNs ns = true) (hv : validN N ns = true) : FnPure Tryd.prog 111 [aNet N ns, aSet s] (boolsV (valsL s ns)) := by
 have hl := okNs_len h
 unfold aNet aNds aSet WV boolsV
 refine fn_sp TT_ok Tryd.func111 (c := _) rfl (by simp [Tryd.ntmps111]) (fun B hI0 hro => ?_)
 rw [Tryd.ntmps111]
 simp only [enumA]
 refine amGo PT169_ok (h := ?_)
 refine s_nil 5 50 4 1 (by simp [lk]) (by simp) ?_
 simp only [st]
 refine s_loop (J := fun i : {k : Nat // k ≤ ns.length} => ⟨78, [(2, .ptr 0 0 0), (3, .ptr 1 0 0), (5, .ref 50 0 (valsL s (ns.take i.1)).length), (6, .v (.int .i64 (i.1 : Int)))], [(50, ⟨4, 1, (valsL s (ns.take i.1)).map fun b => [AV.v (.bool b)]⟩), (0, ⟨24, 2, [[.v (.int .i64 N), .sl 3 (ns.map fun x => [AV.v (.int .i64 x.1), .v (.int .i64 x.2.1), aInts x.2.2])]]⟩), (1, ⟨27, 2, [[.v (.int .u64 ((lo s).toNat : Int)), .v (.int .u64 ((hi s).toNat : Int))]]⟩)], [50, 1, 0]⟩) (μ := fun i => ns.length - i.1) ⟨0, Nat.zero_le _⟩ ?_ (fun ⟨k, hk⟩ => ?_)
 ·have h0 : valsL s [] = [] := rfl
  (refine weak_id rfl ?_ ?_ <;> ((try simp only [List.mem_cons, List.not_mem_nil, or_false, forall_eq_or_imp, forall_eq]); (try simp (disch := omega) [i64w, *])))
 dsimp only
 have hO := valsL_lenT s ns hk
 have HTK := Lib.hid (fun hkk : k < ns.length => valsL_take (s := s) hv hkk)
 generalize hgo : valsL s (ns.take k) = O at hO HTK ⊢
 refine amStr (h := ?_)
 refine amReg PT169_ok (h := ?_)
 refine amStr (h := ?_)
 (focus ((with_reducible refine sp_cond (b := ?_) ?_ (fun hc => ?_) (fun hc => ?_)); rotate_left; (focus (first | rfl | (simp [lk, AS.ev]; rfl))); all_goals (try simp at hc)))
 ·have hkk : k < ns.length := by omega
  clear hc
  have htk := HTK.out hkk
  clear HTK
  have hfm := valid_form hv hkk
  obtain ⟨o1, o2, o3, o5⟩ := okNs_at h hkk
  have o6 := okInts_len o3
  have hget := nds_get hkk
  have hki : (k : Int) < (ns.length : Int) := by omega
  have hwk : IntKind.i64.wrap ((k : Int) + 1) = (k : Int) + 1 := i64s k (by omega)
  have hin : ∀ j, j < (ns.getD k nd0).2.2.length → ∃ m : Nat, (ns.getD k nd0).2.2.getD j 0 = (m : Int) ∧ m < k := fun j hj => by
   have := form_in hfm (gmemZ hj)
   exact ⟨((ns.getD k nd0).2.2.getD j 0).toNat, by omega, by omega⟩
  have hkd := form_kind hfm
  obtain ⟨x, hx⟩ : ∃ x, ns.getD k nd0 = x := ⟨_, rfl⟩
  rw [hx] at htk o1 o2 o3 o5 o6 hget hin hkd
  have ha0 : accB s x O 0 = (decide (x.1 = 3) || (decide (x.1 = 1) || (decide (x.1 = 2) && litHolds s x.2.1))) := by
   unfold accB
   by_cases e : x.1 = 3 <;> simp [e]
  have haA := fun j (hj : j < x.2.2.length) (hk3 : x.1 = 3) => accB_and (s := s) (out := O) hj hk3
  have haO := fun j (hj : j < x.2.2.length) (hk3 : x.1 ≠ 3) => accB_or (s := s) (out := O) hj hk3
  have HA0 := Lib.hid ha0
  have HAA := Lib.hid haA
  have HAO := Lib.hid haO
  have HIN := Lib.hid hin
  clear ha0 haA haO hin hfm hx
  obtain ⟨acc, hacc⟩ : ∃ f : Nat → Bool, (fun j => accB s x O j) = f := ⟨_, rfl⟩
  have hacc2 : ∀ j, accB s x O j = acc j := fun j => congrFun hacc j
  rw [hacc2] at htk HA0
  simp only [hacc2] at HAA HAO
  have HTK := Lib.hid htk
  clear hacc hacc2 htk
  obtain ⟨K, l, is⟩ := x
  simp only at o1 o2 o3 o5 o6 hget HIN hkd HTK HA0 HAA HAO
  refine amStr (h := ?_)
  refine amReg PT169_ok (h := ?_)
  refine k_seq ?_
  refine s_seq ?_
  refine s_cutZ ⟨78, [(2, .ptr 0 0 0), (3, .ptr 1 0 0), (5, .ref 50 0 O.length), (6, .v (.int .i64 (k : Int))), (7, .ptr 56 0 0), (8, .v (.bool (acc 0)))], [(56, ⟨57, 3, [[.v (.int .i64 K), .v (.int .i64 l), aInts is]]⟩), (50, ⟨4, 1, O.map fun b => [AV.v (.bool b)]⟩), (0, ⟨24, 2, [[.v (.int .i64 N), .sl 3 (ns.map fun x => [AV.v (.int .i64 x.1), .v (.int .i64 x.2.1), aInts x.2.2])]]⟩), (1, ⟨27, 2, [[.v (.int .u64 ((lo s).toNat : Int)), .v (.int .u64 ((hi s).toNat : Int))]]⟩)], [56, 50, 1, 0]⟩ ?_ ?_
  ·rcases hkd with e | e | e | e | e
   all_goals
    subst e
    have ha := HA0.out
    simp at ha
    clear HIN
    refine amReg PT169_ok (h := ?_)
    refine ⟨rfl, fun c Q' k => ?_⟩
    refine s_weak _ ?_ k
    (refine weak_id rfl ?_ ?_ <;> ((try simp only [List.mem_cons, List.not_mem_nil, or_false, forall_eq_or_imp, forall_eq]); (try simp (disch := omega) [i64w, *])))
  clear HA0
  refine amStr (h := ?_)
  refine amReg PT169_ok (h := ?_)
  refine amStr (h := ?_)
  refine s_loop (J := fun j : {j : Nat // j ≤ is.length} => ⟨78, [(2, .ptr 0 0 0), (3, .ptr 1 0 0), (5, .ref 50 0 O.length), (6, .v (.int .i64 (k : Int))), (7, .ptr 56 0 0), (8, .v (.bool (acc j.1))), (9, .v (.int .i64 (j.1 : Int)))], [(56, ⟨57, 3, [[.v (.int .i64 K), .v (.int .i64 l), aInts is]]⟩), (50, ⟨4, 1, O.map fun b => [AV.v (.bool b)]⟩), (0, ⟨24, 2, [[.v (.int .i64 N), .sl 3 (ns.map fun x => [AV.v (.int .i64 x.1), .v (.int .i64 x.2.1), aInts x.2.2])]]⟩), (1, ⟨27, 2, [[.v (.int .u64 ((lo s).toNat : Int)), .v (.int .u64 ((hi s).toNat : Int))]]⟩)], [56, 50, 1, 0]⟩) (μ := fun j => is.length - j.1) ⟨0, Nat.zero_le _⟩ ?_ (fun ⟨j, hj⟩ => ?_)
  ·(refine weak_id rfl ?_ ?_ <;> ((try simp only [List.mem_cons, List.not_mem_nil, or_false, forall_eq_or_imp, forall_eq]); (try simp (disch := omega) [i64w, *])))
  dsimp only
  refine amStr (h := ?_)
  refine amReg PT169_ok (h := ?_)
  refine amStr (h := ?_)
  (focus ((with_reducible refine sp_cond (b := ?_) ?_ (fun hc => ?_) (fun hc => ?_)); rotate_left; (focus (first | rfl | (simp [lk, AS.ev]; rfl))); all_goals (try simp at hc)))
  ·have hjj : j < is.length := by omega
   clear hc
   have hji : (j : Int) < (is.length : Int) := by omega
   have hwj : IntKind.i64.wrap ((j : Int) + 1) = (j : Int) + 1 := i64s j (by omega)
   obtain ⟨m, hm1, hm2⟩ := HIN.out j hjj
   have hmO : m < O.length := by omega
   have hmi : (m : Int) < (O.length : Int) := by omega
   have hgb := bget hmO
   have h3 := HAA.out j hjj
   have h4 := HAO.out j hjj
   rw [hm1, Int.toNat_natCast] at h3 h4
   obtain ⟨y, hy⟩ : ∃ y, O.getD m false = y := ⟨_, rfl⟩
   rw [hy] at hgb h3 h4
   obtain ⟨b, hb⟩ : ∃ b, acc j = b := ⟨_, rfl⟩
   rw [hb] at h3 h4 ⊢
   clear hy hget
   have H3 := Lib.hid h3
   have H4 := Lib.hid h4
   clear h3 h4 hb
   by_cases hk3 : K = 3
   ·subst hk3
    have hs := H3.out rfl
    cases b
    all_goals
     simp at hs
     refine amStr (h := ?_)
     refine amReg PT169_ok (h := ?_)
     refine amStr (h := ?_)
     refine amReg PT169_ok (h := ?_)
     refine amStr (h := ?_)
     refine amReg PT169_ok (h := ?_)
     refine k_lp (⟨j + 1, hjj⟩ : {j : Nat // j ≤ is.length}) (by first | omega | (dsimp only; omega)) ?_
     (refine weak_id rfl ?_ ?_ <;> ((try simp only [List.mem_cons, List.not_mem_nil, or_false, forall_eq_or_imp, forall_eq]); (try simp (disch := omega) [i64w, *])))
   ·have hs := H4.out hk3
    have hk3b : (K == 3) = false := by simpa using hk3
    cases b
    all_goals
     simp at hs
     refine amStr (h := ?_)
     refine amReg PT169_ok (h := ?_)
     refine amStr (h := ?_)
     refine amReg PT169_ok (h := ?_)
     refine amStr (h := ?_)
     refine amReg PT169_ok (h := ?_)
     refine k_lp (⟨j + 1, hjj⟩ : {j : Nat // j ≤ is.length}) (by first | omega | (dsimp only; omega)) ?_
     (refine weak_id rfl ?_ ?_ <;> ((try simp only [List.mem_cons, List.not_mem_nil, or_false, forall_eq_or_imp, forall_eq]); (try simp (disch := omega) [i64w, *])))
  ·obtain rfl : j = is.length := by omega
   clear hc
   have htk := HTK.out
   have hcap : k + 1 ≤ 140737488355328 := by omega
   clear HTK HAA HAO HIN
   refine amStr (h := ?_)
   refine amReg PT169_ok (h := ?_)
   refine amStr (h := ?_)
   refine amReg PT169_ok (h := ?_)
   refine k_lp (⟨k + 1, by omega⟩ : {k : Nat // k ≤ ns.length}) (by first | omega | (dsimp only; omega)) ?_
   (refine weak_of (fun q => if q = 50 then 60 else q) ⟨rfl, ?_, ?_, ?_⟩ <;> ((try simp only [List.mem_cons, List.not_mem_nil, or_false, forall_eq_or_imp, forall_eq]); (try simp (disch := omega) [lk, AV.ids, idsL, idsLL, AV.ren, renL, renLL, i64w, *])))
 ·obtain rfl : k = ns.length := by omega
  rw [List.take_length] at hgo
  rw [hgo]
  clear HTK
  refine amStr (h := ?_)
  refine amReg PT169_ok (h := ?_)
  refine amStr (h := ?_)
  (refine amRt Tryd.results111 (h := ?_); try simp [*])
  rw [← hO, show List.take O.length (List.map (fun b => [AV.v (Value.bool b)]) O) = List.map (fun b => [AV.v (Value.bool b)]) O from List.take_of_length_le (by simp)]
  exact ⟨bids O, rfl⟩
@[simp] def g_r20Tru : List AV → Option (AV × Bool)
 | [.agg [.v (.int .i64 N), a0], a1] => (match toNds a0 with | some ns => (match toSet a1 with | some s => if (okI N && okNs ns && validN N ns) = true then some (boolsV (valsL s ns), false) else none | none => none) | none => none)
 | _ => none
theorem e_r20Tru : EntOk Tryd.prog 111 g_r20Tru := ent_pure (by kernel_rfl) fun args r fr h => by
 unfold g_r20Tru at h
 split at h
 ·rename_i N a0 a1
  split at h
  ·rename_i ns t0
   split at h
   ·rename_i s t1
    split at h
    ·rename_i hc
     simp only [Bool.and_eq_true] at hc
     obtain ⟨⟨m0, o0⟩, hk⟩ := hc
     cases h
     exact ⟨FnPure.cov (truth_p N ns s o0 hk) (.cons (cov_th _ (cov_nds t0)) (.cons (toSet_inv t1 ▸ Cov.refl _) .nil)), rfl⟩
    ·cases h
   ·cases h
  ·cases h
 ·cases h

def l170 : List (FuncId × (List AV → Option (AV × Bool))) :=
 (111, g_r20Tru) :: l169
theorem l170_ok : ∀ p ∈ l170, EntOk Tryd.prog p.1 p.2 := ent_cons e_r20Tru (l169_ok)
def PT170 : PTab := tab l170
theorem PT170_ok : PTok Tryd.prog PT170 := tab_ok l170_ok
@[simp] theorem PT170_r20Tru : PT170 111 = g_r20Tru := rfl
@[simp] theorem PT170_old (f : FuncId) (h : decide (f ≠ 111) = true) : PT170 f = PT169 f := tab_old (of_decide_eq_true h)
end Go.Proofs.YtecdhmiamlgibaaDoor
/- Qu39: censusref20.Eval; no condition. -/
namespace Go.Proofs.YtecdhmiamlgibaaDoor
set_option linter.unusedVariables false
set_option linter.unusedSimpArgs false
set_option linter.unusedSectionVars false
open Go.RowKit
open Wlk
attribute [-simp] List.getD_eq_getElem?_getD
set_option maxRecDepth 100000
theorem r20Eval_p (N : Int) (ns : List Nd) (s : BitVec 128) (hN : okI N = true) (h : okNs ns = true) : FnPure Tryd.prog 87 [aNet N ns, aSet s] (.v (.bool (evalN N ns s))) := by
 have hl := okNs_len h
 unfold aNet aNds aSet WV evalN
 cases hv : validN N ns
 ·refine fn_sp TT_ok Tryd.func87 (c := _) rfl (by simp [Tryd.ntmps87]) (fun B hI0 hro => ?_)
  rw [Tryd.ntmps87]
  simp only [enumA]
  refine amStr (h := ?_)
  refine amReg PT170_ok (h := ?_)
  refine amStr (h := ?_)
  refine amDrw PT170_ok (h := ?_)
  refine amStr (h := ?_)
  (refine amRt Tryd.results87 (h := ?_); try simp [*])
 have hlv := valid_len hv
 obtain ⟨m, hm⟩ : ∃ m, ns.length - 1 = m := ⟨_, rfl⟩
 have hw1 : IntKind.i64.wrap ((ns.length : Int) - 1) = (m : Int) := by rw [i64w (by omega) (by omega)]; omega
 have hvl : (valsL s ns).length = ns.length := scanN_len (nodeV s) ns
 have hgb := bget (A := valsL s ns) (k := ns.length - 1) (by omega)
 have hev : evalR ns s = (valsL s ns).getD (ns.length - 1) false := rfl
 rw [← hev, hm] at hgb
 obtain ⟨V, hV⟩ : ∃ V, valsL s ns = V := ⟨_, rfl⟩
 rw [hV] at hvl hgb
 have hbV : boolsV (valsL s ns) = .sl 1 (V.map fun b => [.v (.bool b)]) := by rw [hV]; rfl
 have hi : m < V.length := by omega
 have hii : (m : Int) < (V.length : Int) := by omega
 clear hV hev hm hvl hlv
 rw [Bool.true_and]
 refine fn_sp TT_ok Tryd.func87 (c := _) rfl (by simp [Tryd.ntmps87]) (fun B hI0 hro => ?_)
 rw [Tryd.ntmps87]
 simp only [enumA]
 refine amStr (h := ?_)
 refine amReg PT170_ok (h := ?_)
 refine amStr (h := ?_)
 refine amDrw PT170_ok (h := ?_)
 refine amStr (h := ?_)
 (refine amRt Tryd.results87 (h := ?_); try simp [*])
@[simp] def g_r20Ev : List AV → Option (AV × Bool)
 | [.agg [.v (.int .i64 N), a0], a1] => (match toNds a0 with | some ns => (match toSet a1 with | some s => if (okI N && okNs ns) = true then some (.v (.bool (evalN N ns s)), false) else none | none => none) | none => none)
 | _ => none
theorem e_r20Ev : EntOk Tryd.prog 87 g_r20Ev := ent_pure (by kernel_rfl) fun args r fr h => by
 unfold g_r20Ev at h
 split at h
 ·rename_i N a0 a1
  split at h
  ·rename_i ns t0
   split at h
   ·rename_i s t1
    split at h
    ·rename_i hc
     simp only [Bool.and_eq_true] at hc
     obtain ⟨m0, o0⟩ := hc
     cases h
     exact ⟨FnPure.cov (r20Eval_p N ns s m0 o0) (.cons (cov_th _ (cov_nds t0)) (.cons (toSet_inv t1 ▸ Cov.refl _) .nil)), rfl⟩
    ·cases h
   ·cases h
  ·cases h
 ·cases h

def l171 : List (FuncId × (List AV → Option (AV × Bool))) :=
 (87, g_r20Ev) :: l170
theorem l171_ok : ∀ p ∈ l171, EntOk Tryd.prog p.1 p.2 := ent_cons e_r20Ev (l170_ok)
def PT171 : PTab := tab l171
theorem PT171_ok : PTok Tryd.prog PT171 := tab_ok l171_ok
@[simp] theorem PT171_r20Ev : PT171 87 = g_r20Ev := rfl
@[simp] theorem PT171_old (f : FuncId) (h : decide (f ≠ 87) = true) : PT171 f = PT170 f := tab_old (of_decide_eq_true h)
end Go.Proofs.YtecdhmiamlgibaaDoor
/- Qn39: censusref39.check, subsets, mixed; no condition. -/
namespace Go.Proofs.YtecdhmiamlgibaaDoor
set_option linter.unusedVariables false
set_option linter.unusedSimpArgs false
set_option linter.unusedSectionVars false
open Go.RowKit
open Wlk
attribute [-simp] List.getD_eq_getElem?_getD
set_option maxRecDepth 100000
theorem s_nilv {P : Program} {B : Base} {c : Code} {σ : AS} {Q : Exit → AS → Prop} (t sz : Nat) (h : lk σ.slots t = some (.v (.slice none 0 0))) (k : SP P B c ⟨σ.n, st σ.slots t (.sl sz []), σ.objs, σ.ids⟩ Q) : SP P B c σ Q := fun D0 G w a hr => by
 refine k D0 G w a ⟨hr.n, fun s av hs => ?_, hr.defers, hr.heap, hr.ids⟩
 rw [show (⟨σ.n, st σ.slots t (.sl sz []), σ.objs, σ.ids⟩ : AS).slots = st σ.slots t (.sl sz []) from rfl, lk_st] at hs
 split at hs
 ·rename_i e1; subst e1; cases hs
  obtain ⟨h1, h2⟩ := hr.slot t _ h
  refine ⟨h1, ?_⟩
  rw [h2.v_eq]
  exact rv_nil0 sz
 ·exact hr.slot s av hs
def chkN (N : Int) (ns : List Nd) (a : BitVec 128) : Int := if (validN N ns && sSub a (sAll N)) = false then 1 else if 16 < (listS (matS ns)).length then 2 else 0
theorem chk_one {N : Int} {ns : List Nd} {a : BitVec 128} (h : (validN N ns && sSub a (sAll N)) = false) : chkN N ns a = 1 := by unfold chkN; rw [if_pos h]
theorem chk_two {N : Int} {ns : List Nd} {a : BitVec 128} (h : (validN N ns && sSub a (sAll N)) = true) (h16 : 16 < (listS (matS ns)).length) : chkN N ns a = 2 := by unfold chkN; rw [if_neg (by rw [h]; decide), if_pos h16]
theorem chk_ok {N : Int} {ns : List Nd} {a : BitVec 128} (h : (validN N ns && sSub a (sAll N)) = true) (h16 : ¬ 16 < (listS (matS ns)).length) : chkN N ns a = 0 := by unfold chkN; rw [if_neg (by rw [h]; decide), if_neg h16]
theorem r39Chk_p (N : Int) (ns : List Nd) (a : BitVec 128) (hN : okI N = true) (h : okNs ns = true) : FnPure Tryd.prog 48 [aNet N ns, aSet a] (.v (.int .i64 (chkN N ns a))) := by
 have hl := okNs_len h
 unfold chkN aNet aNds aSet WV
 cases hv : validN N ns
 ·rw [Bool.false_and, if_pos rfl]
  refine fn_sp TT_ok Tryd.func48 (c := _) rfl (by simp [Tryd.ntmps48]) (fun B hI0 hro => ?_)
  rw [Tryd.ntmps48]
  simp only [enumA]
  refine amGo PT171_ok (h := ?_)
  (refine amRt Tryd.results48 (h := ?_); try simp [*])
 rw [Bool.true_and]
 cases hs : sSub a (sAll N)
 ·rw [if_pos rfl]
  refine fn_sp TT_ok Tryd.func48 (c := _) rfl (by simp [Tryd.ntmps48]) (fun B hI0 hro => ?_)
  rw [Tryd.ntmps48]
  simp only [enumA]
  refine amGo PT171_ok (h := ?_)
  (refine amRt Tryd.results48 (h := ?_); try simp [*])
 rw [if_neg (by decide)]
 obtain ⟨k, hk⟩ : ∃ k, (listS (matS ns)).length = k := ⟨_, rfl⟩
 rw [hk]
 by_cases h16 : 16 < k
 ·have h16i : (16 : Int) < (k : Int) := by omega
  rw [if_pos h16]
  refine fn_sp TT_ok Tryd.func48 (c := _) rfl (by simp [Tryd.ntmps48]) (fun B hI0 hro => ?_)
  rw [Tryd.ntmps48]
  simp only [enumA]
  refine amGo PT171_ok (h := ?_)
  (refine amRt Tryd.results48 (h := ?_); try simp [*])
 ·have h16i : ¬ (16 : Int) < (k : Int) := by omega
  rw [if_neg h16]
  refine fn_sp TT_ok Tryd.func48 (c := _) rfl (by simp [Tryd.ntmps48]) (fun B hI0 hro => ?_)
  rw [Tryd.ntmps48]
  simp only [enumA]
  refine amGo PT171_ok (h := ?_)
  (refine amRt Tryd.results48 (h := ?_); try simp [*])
theorem r39Mix_p (a b s : BitVec 128) : FnPure Tryd.prog 88 [aSet a, aSet b, aSet s] (aSet (mixS a b s)) := by
 unfold mixS aSet WV
 refine fn_sp TT_ok Tryd.func88 (c := _) rfl (by simp [Tryd.ntmps88]) (fun B hI0 hro => ?_)
 rw [Tryd.ntmps88]
 simp only [enumA]
 refine amGo PT171_ok (h := ?_)
 (refine amRt Tryd.results88 (h := ?_); try simp [*])
def subK (A : List (BitVec 128)) (v : Int) (k : Nat) : List (BitVec 128) := A ++ (A.take k).map fun s => sWith s v
theorem subK_zero (A : List (BitVec 128)) (v : Int) : subK A v 0 = A := by simp [subK]
theorem subK_all (A : List (BitVec 128)) (v : Int) : subK A v A.length = A ++ A.map fun s => sWith s v := by simp [subK]
theorem subK_len {A : List (BitVec 128)} (v : Int) {k : Nat} (hk : k ≤ A.length) : (subK A v k).length = A.length + k := by
 unfold subK; rw [List.length_append, List.length_map, List.length_take]; omega
theorem subK_succ {A : List (BitVec 128)} (v : Int) {k : Nat} (hk : k < A.length) : subK A v (k + 1) = subK A v k ++ [sWith ((subK A v k).getD k 0#128) v] := by
 have e : (subK A v k).getD k 0#128 = A[k] := by
  unfold subK
  simp [List.getD, List.getElem?_append_left hk, hk]
 rw [e]
 unfold subK
 rw [List.take_succ_eq_append_getElem hk, List.map_append, List.append_assoc]
 rfl
theorem subs_take {L : List Int} {i : Nat} (hi : i < L.length) : subsL (L.take (i + 1)) = subK (subsL (L.take i)) (L.getD i 0) (subsL (L.take i)).length := by
 rw [List.take_succ_eq_append_getElem hi, subs_snoc, subK_all]
 congr 2
 simp [List.getD, hi]
theorem subs_lenT {L : List Int} {i : Nat} (hi : i ≤ L.length) : (subsL (L.take i)).length = 2 ^ i := by
 rw [subs_len, List.length_take, Nat.min_eq_left hi]
set_option maxHeartbeats 4000000 in
theorem r39Sub_p (s : BitVec 128) (h16 : (listS s).length ≤ 16) : FnPure Tryd.prog 49 [aSet s] (aSets (subsL (listS s))) := by
 have hok : okInts (listS s) = true := by
  have := ok_app (xs := listS s) (ys := []) listS_okI (fun _ h => by cases h) (by simp; omega)
  rwa [List.append_nil] at this
 have hLE : ∃ L, listS s = L := ⟨_, rfl⟩
 obtain ⟨L, hL⟩ := hLE
 rw [hL] at hok h16 ⊢
 unfold aSet WV aSets
 refine fn_sp TT_ok Tryd.func49 (c := _) rfl (by simp [Tryd.ntmps49]) (fun B hI0 hro => ?_)
 rw [Tryd.ntmps49]
 simp only [enumA]
 refine amStr (h := ?_)
 refine amReg PT171_ok (h := ?_)
 refine amStr (h := ?_)
 refine amReg PT171_ok (h := ?_)
 refine amStr (h := ?_)
 refine amReg PT171_ok (h := ?_)
 refine amStr (h := ?_)
 refine amReg PT171_ok (h := ?_)
 refine amStr (h := ?_)
 refine s_loop (J := fun i : {i : Nat // i ≤ L.length} => ⟨38, [(3, aInts L), (4, .ref 50 0 (subsL (L.take i.1)).length), (5, .v (.int .i64 (i.1 : Int)))], [(50, ⟨27, 2, (subsL (L.take i.1)).map fun s => [AV.v (.int .u64 ((lo s).toNat : Int)), .v (.int .u64 ((hi s).toNat : Int))]⟩)], [50]⟩) (μ := fun i => L.length - i.1) ⟨0, Nat.zero_le _⟩ ?_ (fun ⟨i, hie⟩ => ?_)
 ·have h0 : subsL [] = [0#128] := rfl
  obtain ⟨z1, z2⟩ := words0
  (refine weak_of (fun q => if q = 50 then 2 else q) ⟨rfl, ?_, ?_, ?_⟩ <;> ((try simp only [List.mem_cons, List.not_mem_nil, or_false, forall_eq_or_imp, forall_eq]); (try simp (disch := omega) [lk, AV.ids, idsL, idsLL, AV.ren, renL, renLL, i64w, *])))
 refine amStr (h := ?_)
 refine amReg PT171_ok (h := ?_)
 refine amStr (h := ?_)
 (focus ((with_reducible refine sp_cond (b := ?_) ?_ (fun hc => ?_) (fun hc => ?_)); rotate_left; (focus (first | rfl | (simp [lk, AS.ev]; rfl))); all_goals (try simp at hc)))
 ·have hii : i < L.length := hc
  clear hc
  have htk := subs_take hii
  have hln := subs_lenT hie
  have hp : 2 ^ i ≤ 2 ^ 15 := Nat.pow_le_pow_right (by omega) (by omega)
  have hp2 : (2 : Nat) ^ 15 = 32768 := by decide
  have hov : okI (L.getD i 0) = true := okI_iff.2 (okInts_at hok i)
  have hwi : IntKind.i64.wrap ((i : Int) + 1) = (i : Int) + 1 := i64s i (by omega)
  obtain ⟨A, hA⟩ : ∃ A, subsL (L.take i) = A := ⟨_, rfl⟩
  rw [hA] at htk hln ⊢
  rw [hp2] at hp
  have hA5 : A.length ≤ 32768 := by omega
  have hsk := fun k (hk : k < A.length) => subK_succ (L.getD i 0) hk
  have hsl := fun k (hk : k ≤ A.length) => subK_len (L.getD i 0) hk
  have hs0 := subK_zero A (L.getD i 0)
  have hii2 : (i : Int) < (L.length : Int) := by omega
  obtain ⟨v, hv⟩ : ∃ v, L.getD i 0 = v := ⟨_, rfl⟩
  rw [hv] at htk hov hsk hsl hs0
  have HSK := Lib.hid hsk
  have HSL := Lib.hid hsl
  have HTK := Lib.hid htk
  clear hsk hsl htk hA hln hp hp2
  refine amStr (h := ?_)
  refine amReg PT171_ok (h := ?_)
  refine amStr (h := ?_)
  refine amReg PT171_ok (h := ?_)
  refine amStr (h := ?_)
  refine s_loop (J := fun k : {k : Nat // k ≤ A.length} => ⟨38, [(3, aInts L), (4, .ref 50 0 (subK A v k.1).length), (5, .v (.int .i64 (i : Int))), (6, .v (.int .i64 (A.length : Int))), (7, .v (.int .i64 (k.1 : Int)))], [(50, ⟨27, 2, (subK A v k.1).map fun s => [AV.v (.int .u64 ((lo s).toNat : Int)), .v (.int .u64 ((hi s).toNat : Int))]⟩)], [50]⟩) (μ := fun k => A.length - k.1) ⟨0, Nat.zero_le _⟩ ?_ (fun ⟨k, hk⟩ => ?_)
  ·(refine weak_id rfl ?_ ?_ <;> ((try simp only [List.mem_cons, List.not_mem_nil, or_false, forall_eq_or_imp, forall_eq]); (try simp (disch := omega) [i64w, *])))
  clear hs0
  refine amStr (h := ?_)
  refine amReg PT171_ok (h := ?_)
  refine amStr (h := ?_)
  (focus ((with_reducible refine sp_cond (b := ?_) ?_ (fun hc => ?_) (fun hc => ?_)); rotate_left; (focus (first | rfl | (simp [lk, AS.ev]; rfl))); all_goals (try simp at hc)))
  ·have hkk : k < A.length := hc
   clear hc
   have hs := HSK.out k hkk
   have hl := HSL.out k hk
   have hwk : IntKind.i64.wrap ((k : Int) + 1) = (k : Int) + 1 := i64s k (by omega)
   obtain ⟨B, hB⟩ : ∃ B, subK A v k = B := ⟨_, rfl⟩
   rw [hB] at hs hl ⊢
   have hkB : k < B.length := by omega
   have hkBi : (k : Int) < (B.length : Int) := by omega
   have hcap : (B.length + 1) * 16 ≤ 140737488355328 := by omega
   clear hB hl
   refine amStr (h := ?_)
   refine amDrw PT171_ok (h := ?_)
   refine amStr (h := ?_)
   refine amReg PT171_ok (h := ?_)
   refine k_lp (⟨k + 1, hkk⟩ : {k : Nat // k ≤ A.length}) (by first | omega | (dsimp only; omega)) ?_
   (refine weak_of (fun q => if q = 50 then 62 else q) ⟨rfl, ?_, ?_, ?_⟩ <;> ((try simp only [List.mem_cons, List.not_mem_nil, or_false, forall_eq_or_imp, forall_eq]); (try simp (disch := omega) [lk, AV.ids, idsL, idsLL, AV.ren, renL, renLL, i64w, *])))
  ·obtain rfl : k = A.length := by omega
   clear hc
   have htk := HTK.out
   rw [← htk]
   refine amStr (h := ?_)
   refine amReg PT171_ok (h := ?_)
   refine k_lp (⟨i + 1, by omega⟩ : {i : Nat // i ≤ L.length}) (by first | omega | (dsimp only; omega)) ?_
   (refine weak_id rfl ?_ ?_ <;> ((try simp only [List.mem_cons, List.not_mem_nil, or_false, forall_eq_or_imp, forall_eq]); (try simp (disch := omega) [i64w, *])))
 ·obtain rfl : i = L.length := by omega
  clear hc
  have e : L.take L.length = L := List.take_length
  rw [e]
  refine amGo PT171_ok (h := ?_)
  (refine amRt Tryd.results49 (h := ?_); try simp [*])
@[simp] def g_r39Chk : List AV → Option (AV × Bool)
 | [.agg [.v (.int .i64 N), a0], a1] => (match toNds a0 with | some ns => (match toSet a1 with | some a => if (okI N && okNs ns) = true then some (.v (.int .i64 (chkN N ns a)), false) else none | none => none) | none => none)
 | _ => none
theorem e_r39Chk : EntOk Tryd.prog 48 g_r39Chk := ent_pure (by kernel_rfl) fun args r fr h => by
 unfold g_r39Chk at h
 split at h
 ·rename_i N a0 a1
  split at h
  ·rename_i ns t0
   split at h
   ·rename_i a t1
    split at h
    ·rename_i hc
     simp only [Bool.and_eq_true] at hc
     obtain ⟨m0, o0⟩ := hc
     cases h
     exact ⟨FnPure.cov (r39Chk_p N ns a m0 o0) (.cons (cov_th _ (cov_nds t0)) (.cons (toSet_inv t1 ▸ Cov.refl _) .nil)), rfl⟩
    ·cases h
   ·cases h
  ·cases h
 ·cases h

@[simp] def g_r39Sub : List AV → Option (AV × Bool)
 | [a0] => (match toSet a0 with | some s => if (decide ((listS s).length ≤ 16)) = true then some (aSets (subsL (listS s)), false) else none | none => none)
 | _ => none
theorem e_r39Sub : EntOk Tryd.prog 49 g_r39Sub := ent_pure (by kernel_rfl) fun args r fr h => by
 unfold g_r39Sub at h
 split at h
 ·rename_i a0
  split at h
  ·rename_i s t0
   split at h
   ·rename_i hc
    have hk := hc
    cases h
    exact ⟨FnPure.cov (r39Sub_p s (of_decide_eq_true hk)) (.cons (toSet_inv t0 ▸ Cov.refl _) .nil), rfl⟩
   ·cases h
  ·cases h
 ·cases h

@[simp] def g_r39Mix : List AV → Option (AV × Bool)
 | [a0, a1, a2] => (match toSet a0 with | some a => (match toSet a1 with | some b => (match toSet a2 with | some s => if (true) = true then some (aSet (mixS a b s), false) else none | none => none) | none => none) | none => none)
 | _ => none
theorem e_r39Mix : EntOk Tryd.prog 88 g_r39Mix := ent_pure (by kernel_rfl) fun args r fr h => by
 unfold g_r39Mix at h
 split at h
 ·rename_i a0 a1 a2
  split at h
  ·rename_i a t0
   split at h
   ·rename_i b t1
    split at h
    ·rename_i s t2
     split at h
     ·rename_i hc
      cases h
      exact ⟨FnPure.cov (r39Mix_p a b s) (.cons (toSet_inv t0 ▸ Cov.refl _) (.cons (toSet_inv t1 ▸ Cov.refl _) (.cons (toSet_inv t2 ▸ Cov.refl _) .nil))), rfl⟩
     ·cases h
    ·cases h
   ·cases h
  ·cases h
 ·cases h

def l172 : List (FuncId × (List AV → Option (AV × Bool))) :=
 (48, g_r39Chk) :: (49, g_r39Sub) :: (88, g_r39Mix) :: l171
theorem l172_ok : ∀ p ∈ l172, EntOk Tryd.prog p.1 p.2 := ent_cons e_r39Chk (ent_cons e_r39Sub (ent_cons e_r39Mix (l171_ok)))
def PT172 : PTab := tab l172
theorem PT172_ok : PTok Tryd.prog PT172 := tab_ok l172_ok
@[simp] theorem PT172_r39Chk : PT172 48 = g_r39Chk := rfl
@[simp] theorem PT172_r39Sub : PT172 49 = g_r39Sub := rfl
@[simp] theorem PT172_r39Mix : PT172 88 = g_r39Mix := rfl
@[simp] theorem PT172_old (f : FuncId) (h : decide (f ≠ 48 ∧ f ≠ 49 ∧ f ≠ 88) = true) : PT172 f = PT171 f := (fun h => Eq.trans (tab_old h.1) (Eq.trans (tab_old h.2.1) (tab_old h.2.2))) (of_decide_eq_true h)
end Go.Proofs.YtecdhmiamlgibaaDoor
/- Qw39: censusref39.sufficient; no condition. -/
namespace Go.Proofs.YtecdhmiamlgibaaDoor
set_option linter.unusedVariables false
set_option linter.unusedSimpArgs false
set_option linter.unusedSectionVars false
open Go.RowKit
open Wlk
attribute [-simp] List.getD_eq_getElem?_getD
set_option maxRecDepth 100000
theorem allT_step {α : Type} {f : α → Bool} {l : List α} {k : Nat} {d : α} (hk : k < l.length) (h : (l.take k).all f = true) (hf : f (l.getD k d) = true) : (l.take (k + 1)).all f = true := by
 have e : l.getD k d = l[k] := by simp [List.getD, hk]
 rw [List.take_succ_eq_append_getElem hk, List.all_append, h, ← e]
 simp [hf]
theorem allT_no {α : Type} {f : α → Bool} {l : List α} {k : Nat} {d : α} (hk : k < l.length) (hf : f (l.getD k d) = false) : l.all f = false := by
 rw [← Bool.not_eq_true, List.all_eq_true]
 intro h
 have e : l.getD k d = l[k] := by simp [List.getD, hk]
 rw [e, h _ (List.getElem_mem hk)] at hf
 cases hf
theorem listS_lens {m s : BitVec 128} (h : ∀ v, sHas s v = true → sHas m v = true) : (listS s).length ≤ (listS m).length := by
 rw [listS_sub h]; exact List.length_filter_le _ _
theorem minus_lens (m s : BitVec 128) : (listS (m &&& ~~~ s)).length ≤ (listS m).length := listS_lens fun v hv => by
 rw [sHas_and, Bool.and_eq_true] at hv; exact hv.1
attribute [local simp] aSets
set_option maxHeartbeats 4000000 in
theorem r39Suf_p (N : Int) (ns : List Nd) (a s : BitVec 128) (hN : okI N = true) (h : okNs ns = true) (hv : validN N ns = true) (h16 : (listS (matS ns)).length ≤ 16) : FnPure Tryd.prog 60 [aNet N ns, aSet a, aSet s] (.v (.bool (suffB ns a s))) := by
 have hl := okNs_len h
 have hml := minus_lens (matS ns) s
 have hs16 : (listS (matS ns &&& ~~~ s)).length ≤ 16 := by omega
 have he : ∀ x, evalN N ns x = evalR ns x := fun x => by unfold evalN; rw [hv, Bool.true_and]
 have hxl := subs_len (listS (matS ns &&& ~~~ s))
 have hp : 2 ^ (listS (matS ns &&& ~~~ s)).length ≤ 2 ^ 16 := Nat.pow_le_pow_right (by omega) hs16
 have hp2 : (2 : Nat) ^ 16 = 65536 := by decide
 unfold suffB aNet aNds aSet WV
 obtain ⟨X, hX⟩ : ∃ X, subsL (listS (matS ns &&& ~~~ s)) = X := ⟨_, rfl⟩
 rw [hX] at hxl ⊢
 have hX5 : X.length ≤ 65536 := by omega
 clear hxl hp hp2 hml h16
 obtain ⟨f, hf⟩ : ∃ f : BitVec 128 → Bool, (fun x => decide (evalR ns (mixS a x s) = evalR ns a)) = f := ⟨_, rfl⟩
 have hf2 : ∀ x, (evalR ns (mixS a x s) == evalR ns a) = f x := fun x => by rw [← hf]; exact (by decide : ∀ u w : Bool, (u == w) = decide (u = w)) _ _
 rw [hf]
 clear hf
 refine fn_sp TT_ok Tryd.func60 (c := _) rfl (by simp [Tryd.ntmps60]) (fun B hI0 hro => ?_)
 rw [Tryd.ntmps60]
 simp only [enumA]
 refine amStr (h := ?_)
 refine amReg PT172_ok (h := ?_)
 refine amStr (h := ?_)
 refine amDrw PT172_ok (h := ?_)
 refine amStr (h := ?_)
 refine amReg PT172_ok (h := ?_)
 refine amStr (h := ?_)
 refine s_loop (J := fun i : {k : Nat // k ≤ X.length ∧ Hid ((X.take k).all f = true)} => ⟨33, [(3, .ptr 0 0 0), (4, .ptr 1 0 0), (5, .ptr 2 0 0), (6, .v (.bool false)), (7, aSets X), (8, .v (.int .i64 (i.1 : Int)))], [(0, ⟨24, 2, [[.v (.int .i64 N), .sl 3 (ns.map fun x => [AV.v (.int .i64 x.1), .v (.int .i64 x.2.1), aInts x.2.2])]]⟩), (1, ⟨27, 2, [[.v (.int .u64 ((lo a).toNat : Int)), .v (.int .u64 ((hi a).toNat : Int))]]⟩), (2, ⟨27, 2, [[.v (.int .u64 ((lo s).toNat : Int)), .v (.int .u64 ((hi s).toNat : Int))]]⟩)], [2, 1, 0]⟩) (μ := fun i => X.length - i.1) ⟨0, Nat.zero_le _, Lib.hid rfl⟩ ?_ (fun ⟨k, hk, HK⟩ => ?_)
 ·(refine weak_id rfl ?_ ?_ <;> ((try simp only [List.mem_cons, List.not_mem_nil, or_false, forall_eq_or_imp, forall_eq]); (try simp (disch := omega) [i64w, *])))
 clear hX hs16
 try dsimp only at hk HK
 refine amStr (h := ?_)
 refine amReg PT172_ok (h := ?_)
 refine amStr (h := ?_)
 (focus ((with_reducible refine sp_cond (b := ?_) ?_ (fun hc => ?_) (fun hc => ?_)); rotate_left; (focus (first | rfl | (simp [lk, AS.ev]; rfl))); all_goals (try simp at hc)))
 ·have hkk : k < X.length := hc
  clear hc
  have hki : (k : Int) < (X.length : Int) := by omega
  have hwk : IntKind.i64.wrap ((k : Int) + 1) = (k : Int) + 1 := i64s k (by omega)
  have HN := Lib.hid (allT_step (f := f) (d := 0#128) hkk HK.out)
  have HY := Lib.hid (allT_no (f := f) (d := 0#128) hkk)
  have hfk := hf2 (X.getD k 0#128)
  obtain ⟨b, hb⟩ : ∃ b, f (X.getD k 0#128) = b := ⟨_, rfl⟩
  rw [hb] at HN HY hfk
  clear hf2 hb
  cases b
  ·have hF := HY.out rfl
   rw [hF]
   refine amStr (h := ?_)
   refine amDrw PT172_ok (h := ?_)
   refine amStr (h := ?_)
   refine amReg PT172_ok (h := ?_)
   refine amStr (h := ?_)
   (refine amRt Tryd.results60 (h := ?_); try simp [*])
  ·refine amStr (h := ?_)
   refine amDrw PT172_ok (h := ?_)
   refine amStr (h := ?_)
   refine amReg PT172_ok (h := ?_)
   refine k_lp (⟨k + 1, hkk, Lib.hid (HN.out rfl)⟩ : {k : Nat // k ≤ X.length ∧ Hid ((X.take k).all f = true)}) (by first | omega | (dsimp only; omega)) ?_
   (refine weak_id rfl ?_ ?_ <;> ((try simp only [List.mem_cons, List.not_mem_nil, or_false, forall_eq_or_imp, forall_eq]); (try simp (disch := omega) [i64w, *])))
 ·obtain rfl : k = X.length := by omega
  clear hc
  have hF : X.all f = true := by have := HK.out; rwa [List.take_length] at this
  rw [hF]
  refine amStr (h := ?_)
  refine amReg PT172_ok (h := ?_)
  refine amStr (h := ?_)
  (refine amRt Tryd.results60 (h := ?_); try simp [*])
@[simp] def g_r39Suf : List AV → Option (AV × Bool)
 | [.agg [.v (.int .i64 N), a0], a1, a2] => (match toNds a0 with | some ns => (match toSet a1 with | some a => (match toSet a2 with | some s => if (okI N && okNs ns && (validN N ns && decide ((listS (matS ns)).length ≤ 16))) = true then some (.v (.bool (suffB ns a s)), false) else none | none => none) | none => none) | none => none)
 | _ => none
theorem e_r39Suf : EntOk Tryd.prog 60 g_r39Suf := ent_pure (by kernel_rfl) fun args r fr h => by
 unfold g_r39Suf at h
 split at h
 ·rename_i N a0 a1 a2
  split at h
  ·rename_i ns t0
   split at h
   ·rename_i a t1
    split at h
    ·rename_i s t2
     split at h
     ·rename_i hc
      simp only [Bool.and_eq_true] at hc
      obtain ⟨⟨m0, o0⟩, hk⟩ := hc
      cases h
      exact ⟨FnPure.cov (r39Suf_p N ns a s m0 o0 hk.1 (of_decide_eq_true hk.2)) (.cons (cov_th _ (cov_nds t0)) (.cons (toSet_inv t1 ▸ Cov.refl _) (.cons (toSet_inv t2 ▸ Cov.refl _) .nil))), rfl⟩
     ·cases h
    ·cases h
   ·cases h
  ·cases h
 ·cases h

def l173 : List (FuncId × (List AV → Option (AV × Bool))) :=
 (60, g_r39Suf) :: l172
theorem l173_ok : ∀ p ∈ l173, EntOk Tryd.prog p.1 p.2 := ent_cons e_r39Suf (l172_ok)
def PT173 : PTab := tab l173
theorem PT173_ok : PTok Tryd.prog PT173 := tab_ok l173_ok
@[simp] theorem PT173_r39Suf : PT173 60 = g_r39Suf := rfl
@[simp] theorem PT173_old (f : FuncId) (h : decide (f ≠ 60) = true) : PT173 f = PT172 f := tab_old (of_decide_eq_true h)
end Go.Proofs.YtecdhmiamlgibaaDoor
