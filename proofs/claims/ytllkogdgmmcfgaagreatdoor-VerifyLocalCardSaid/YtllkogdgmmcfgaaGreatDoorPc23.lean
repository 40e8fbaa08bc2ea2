/- Claims that are not needed do not matter, nor does the order of terms; plain; no condition. -/
import Derived.Test.YtllkogdgmmcfgaaGreatDoorPb23
namespace Go.Proofs.YtllkogdgmmcfgaaGreatDoor
set_option linter.unusedVariables false
set_option linter.unusedSimpArgs false
set_option linter.unusedSectionVars false
open Go.RowKit
set_option maxRecDepth 100000
theorem tm_iff {N : Int} (hN : N ≤ 128) {ts : List Int} : (List.range ts.length).all (tmOk N ts) = true ↔ (∀ l ∈ ts, litOk l N = true) ∧ (ts.map litVar).Nodup := by
 have hrow : ∀ j, ∀ v, sHas (varsRow 0#128 ts j) v = (decide (1 ≤ v ∧ v ≤ 128) && (ts.take j).any fun l => decide (litVar l = v)) := fun j v => by
  have h := sHas_varsRow 0#128 (ts.take j) v
  have e : varsRow 0#128 (ts.take j) (ts.take j).length = varsRow 0#128 ts j := by unfold varsRow; rw [List.take_length]
  rw [e] at h
  rw [h, show sHas 0#128 v = false by simp [sHas], Bool.false_or]
 have ge : ∀ i (hi : i < ts.length), ts.getD i 0 = ts[i] := fun i hi => by simp [List.getD, hi]
 constructor
 ·intro h
  have h2 : ∀ j, j < ts.length → tmOk N ts j = true := fun j hj => List.all_eq_true.1 h j (List.mem_range.2 hj)
  have hl : ∀ l ∈ ts, litOk l N = true := fun l hl => by
   obtain ⟨i, hi, rfl⟩ := List.getElem_of_mem hl
   have := h2 i hi
   rw [tmOk, Bool.and_eq_true] at this
   rw [← ge i hi]; exact this.1
  refine ⟨hl, ?_⟩
  unfold List.Nodup
  rw [List.pairwise_map, List.pairwise_iff_getElem]
  intro i j hi hj hij e
  have h3 := h2 j hj
  rw [tmOk, Bool.and_eq_true, hrow, ge j hj] at h3
  have h4 := h3.2
  rw [Bool.not_eq_true', Bool.and_eq_false_iff] at h4
  have hlo := litVar_abs (hl _ (List.getElem_mem hj))
  have hr := litVar_range ts[j]
  rcases h4 with h4 | h4
  ·rw [decide_eq_false_iff_not] at h4; omega
  ·rw [List.any_eq_false] at h4
   exact h4 ts[i] (List.mem_take_iff_getElem.2 ⟨i, by omega, rfl⟩) (decide_eq_true e)
 ·rintro ⟨h1, h2⟩
  unfold List.Nodup at h2
  rw [List.pairwise_map, List.pairwise_iff_getElem] at h2
  refine List.all_eq_true.2 fun j hj => ?_
  have hj := List.mem_range.1 hj
  rw [tmOk, hrow, ge j hj, h1 _ (List.getElem_mem hj), Bool.true_and, Bool.not_eq_true', Bool.and_eq_false_iff]
  right
  rw [List.any_eq_false]
  intro l hl e
  obtain ⟨i, hi, rfl⟩ := List.mem_take_iff_getElem.1 hl
  exact h2 i j (by omega) hj (by omega) (of_decide_eq_true e)
theorem good_rev {N m : Int} (hN : N ≤ 128) (ts cs : List Int) : goodB N m ts.reverse cs = goodB N m ts cs := by
 unfold goodB
 congr 1
 rw [Bool.eq_iff_iff, tm_iff hN, tm_iff hN, List.map_reverse, (List.reverse_perm (ts.map litVar)).nodup_iff]
 simp only [List.mem_reverse]
theorem rsd_rev (L : List (List Int)) (ts cs : List Int) : rsdL L ts.reverse cs = rsdL L ts cs := by
 have e1 : ∀ c, openC ts.reverse c = openC ts c := fun c => by unfold openC; simp only [List.mem_reverse]
 have e2 : ∀ c, restC ts.reverse c = restC ts c := fun c => by unfold restC; simp only [List.mem_reverse]
 have e3 : keptL L ts.reverse cs = keptL L ts cs := by
  unfold keptL
  refine List.filter_congr fun i _ => ?_
  unfold keptF
  simp
 unfold rsdL givenT
 rw [e3, show openC ts.reverse = openC ts from funext e1, show restC ts.reverse = restC ts from funext e2]
theorem rs_rev {N : Int} (hN : N ≤ 128) (L : List (List Int)) (c : Cl) : rsV L N (c.1.reverse, c.2) = rsV L N c := by
 unfold rsV
 simp only [good_rev hN, rsd_rev]
def SamC (N : Int) (L : List (List Int)) (ns : List Nd) (cl cl' : List Cl) (is : List Int) : Prop := ∀ i ∈ is, kindN ns i ≠ 2 → rsV L N (clN cl i) = rsV L N (clN cl' i)
theorem fit2_same {N : Int} {L : List (List Int)} {ns : List Nd} {cl cl' : List Cl} : ∀ (is : List Int) (seen : BitVec 128) (all : List (List Int)), SamC N L ns cl cl' is → fit2 N L ns cl is seen all = fit2 N L ns cl' is seen all
 | [], _, _, _ => rfl
 | i :: r, seen, all, h => by
  have ih := fun s a => fit2_same r s a (fun j hj => h j (List.mem_cons_of_mem _ hj))
  unfold fit2
  by_cases hk : kindN ns i = 2
  ·simp only [if_pos hk]
   cases rsV L N (clN cl i) <;> cases rsV L N (clN cl' i) <;> rfl
  ·rw [h i (List.mem_cons_self ..) hk]
   cases rsV L N (clN cl' i) with
   | none => rfl
   | some x => simp only [ih]
theorem fit1_sub {ns : List Nd} : ∀ (f : Nat) (R : List (List Int)) (is : List Int), ∀ i ∈ (fit1 ns f R is).2, i ∈ is
 | 0, R, is, i, hi => hi
 | f + 1, R, is, i, hi => by
  unfold fit1 at hi
  cases hf : is.findIdx? (useB ns R) with
  | none => rw [hf] at hi; exact hi
  | some k =>
   rw [hf] at hi
   exact (cut_perm (find_at hf).1).mem_iff.2 (List.mem_cons_of_mem _ (fit1_sub f _ _ i hi))
theorem fitV_same {N : Int} {L : List (List Int)} {ns : List Nd} {cl cl' : List Cl} {R : List (List Int)} {is : List Int} (h : SamC N L ns cl cl' is) : fitV N L ns cl R is = fitV N L ns cl' R is := by
 unfold fitV
 rw [fit2_same _ _ _ fun j hj => h j (fit1_sub _ _ _ j hj)]
theorem sideV_same {N : Int} {L : List (List Int)} {ns : List Nd} {cl cl' : List Cl} {R : List (List Int)} {i l : Int} (h : kindN ns i = 3 → SamC N L ns cl cl' (inN ns i)) : sideV N L ns cl R i l = sideV N L ns cl' R i l := by
 unfold sideV
 split
 ·rfl
 ·split
  ·rename_i hk
   cases hf : (inN ns i).findIdx? (litI ns l) with
   | none => rfl
   | some k => exact fitV_same fun j hj => h hk j ((cut_perm (find_at hf).1).mem_iff.2 (List.mem_cons_of_mem _ hj))
  ·rfl
theorem any_congrV {α : Type} {xs : List α} {p q : α → Bool} (h : ∀ k ∈ xs, p k = q k) : xs.any p = xs.any q := by
 induction xs with
 | nil => rfl
 | cons a r ih => rw [List.any_cons, List.any_cons, h a (by simp), ih fun k hk => h k (by simp [hk])]
theorem acpt_same {N : Int} {L : List (List Int)} {ns : List Nd} {cl cl' : List Cl} {R : List (List Int)} {i : Int} (h : kindN ns i = 3 → SamC N L ns cl cl' (inN ns i)) (h2 : kindN ns i ≠ 0 → kindN ns i ≠ 1 → kindN ns i ≠ 2 → kindN ns i ≠ 3 → ∀ j ∈ inN ns i, kindN ns j = 3 → SamC N L ns cl cl' (inN ns j)) : acptV N L ns cl i R = acptV N L ns cl' i R := by
 unfold acptV
 split
 ·rfl
 ·rename_i k1
  split
  ·rfl
  ·rename_i k0
   split
   ·rfl
   ·rename_i k2
    split
    ·rename_i k3; exact fitV_same (h k3)
    ·rename_i k3
     split
     ·rfl
     ·rename_i hl
      have hl : (inN ns i).length = 2 := by omega
      have h2 := h2 k0 k1 k2 k3
      have m0 : (inN ns i).getD 0 0 ∈ inN ns i := by
       match inN ns i, hl with
       | [a, b], _ => simp
      have m1 : (inN ns i).getD 1 0 ∈ inN ns i := by
       match inN ns i, hl with
       | [a, b], _ => simp
      refine any_congrV fun v _ => any_congrV fun l _ => ?_
      rw [sideV_same (h2 _ m0), sideV_same (h2 _ m1)]
def TurnC (ns : List Nd) (cl cl' : List Cl) : Prop := cl'.length = cl.length ∧ ∀ i : Nat, i < ns.length → nedB ns i = true → clN cl' (i : Int) = ((clN cl (i : Int)).1.reverse, (clN cl (i : Int)).2)
theorem ver_turn {N : Int} {L : List (List Int)} {M : Int} {ns : List Nd} {cl cl' : List Cl} (h : TurnC ns cl cl') : verV N L M ns cl = verV N L M ns cl' := by
 unfold verV
 rw [h.1]
 split
 ·rename_i hh
  obtain ⟨hz, hv, rfl, hl⟩ := hh
  have hN := (checkT_ok hz).2.1
  have hin : ∀ p : Nat, p < ns.length → kindN ns (p : Int) = 3 → SamC N L ns cl cl' (inN ns (p : Int)) := fun p hp hk j hj hj2 => by
   obtain ⟨k0, k1⟩ := form_in (valid_form hv hp) (k := j) hj
   have hnd := ned_of_and hp hk k0 hj hj2
   have e : ((j.toNat : Nat) : Int) = j := by omega
   have := h.2 j.toNat (by omega) hnd
   rw [e] at this
   rw [this, rs_rev hN]
  have hb : ∀ i ∈ List.range ns.length, badV N L ns cl i = badV N L ns cl' i := fun i hi => by
   have hi := List.mem_range.1 hi
   unfold badV
   split
   ·rename_i hn
    rw [h.2 i hi hn, rs_rev hN]
    cases rsV L N (clN cl (i : Int)) with
    | none => rfl
    | some r =>
     simp only
     rw [acpt_same (hin i hi) fun _ _ _ _ j hj hk => ?_]
     obtain ⟨k0, k1⟩ := form_in (valid_form hv hi) (k := j) hj
     have e : ((j.toNat : Nat) : Int) = j := by omega
     have := hin j.toNat (by omega) (by rw [e]; exact hk)
     rw [e] at this
     exact this
   ·rfl
  congr 1
  generalize List.range ns.length = l at hb ⊢
  induction l with
  | nil => rfl
  | cons a r ih => rw [List.find?_cons, List.find?_cons, hb a (by simp), ih fun k hk => hb k (by simp [hk])]
 ·rfl
end Go.Proofs.YtllkogdgmmcfgaaGreatDoor
