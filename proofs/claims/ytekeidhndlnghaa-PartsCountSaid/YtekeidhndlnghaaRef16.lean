/- Contracts of censusref16: with, vars, meet, join, least, valid; no condition. -/
import Derived.Test.YtekeidhndlnghaaOld
import Derived.Test.YtekeidhndlnghaaTail
namespace Go.Proofs.Ytekeidhndlnghaa
set_option linter.unusedVariables false
set_option linter.unusedSimpArgs false
set_option linter.unusedSectionVars false
open Go.RowKit

set_option maxHeartbeats 400000 in
theorem ref16with_c (s : BitVec 128) (v : Int) (w : World) (h1 : 1 ≤ v) (h2 : v ≤ 128) :
    Calls Try.prog 39 #[SV s, .int .i64 v] w (Gives w (SV (sWith s v))) := by
  unfold SV WV
  by_cases h3 : v ≤ 64
  · rw [(lo_with s v h1 h3).1, (lo_with s v h1 h3).2]
    have HZ := Lib.hid (show IntKind.u64.wrap (2 ^ (v.toNat - 1)) = ((BitVec.twoPow 64 (v - 1).toNat).toNat : Int) by
      rw [show v.toNat - 1 = (v - 1).toNat by omega]; exact shift_one _ (by omega))
    generalize BitVec.twoPow 64 (v - 1).toNat = z at *
    generalize lo s = x
    generalize hi s = y
    have HF := Lib.hid (bits_or x z)
    have h4 : (v - 1) / 64 = 0 := by omega
    have h5 : (v - 1) % 64 = v - 1 := by omega
    go_enter Try.func39, Try.ntmps39
    go_wp2
    exact bodyPost_ret (v := .agg #[.int .u64 (bits .or .u64 (x.toNat : Int) (IntKind.u64.wrap (2 ^ (v.toNat - 1)))), .int .u64 (y.toNat : Int)]) (by simp [results, Try.results39, go_sem]) rfl ⟨agg2_eq (by rw [HZ.out, HF.out]) rfl, below2 _ _ _⟩
  · rw [(hi_with s v (by omega) h2).1, (hi_with s v (by omega) h2).2]
    have HZ := Lib.hid (show IntKind.u64.wrap (2 ^ (v - 65).toNat) = ((BitVec.twoPow 64 (v - 65).toNat).toNat : Int) from shift_one _ (by omega))
    generalize BitVec.twoPow 64 (v - 65).toNat = z at *
    generalize lo s = x
    generalize hi s = y
    have HF := Lib.hid (bits_or y z)
    have h4 : (v - 1) / 64 = 1 := by omega
    have h5 : (v - 1) % 64 = v - 65 := by omega
    go_enter Try.func39, Try.ntmps39
    go_wp2
    exact bodyPost_ret (v := .agg #[.int .u64 (x.toNat : Int), .int .u64 (bits .or .u64 (y.toNat : Int) (IntKind.u64.wrap (2 ^ (v - 65).toNat)))]) (by simp [results, Try.results39, go_sem]) rfl ⟨agg2_eq rfl (by rw [HZ.out, HF.out]; simp), below2 _ _ _⟩

theorem lo_or (s t : BitVec 128) : lo (s ||| t) = lo s ||| lo t := by
  apply BitVec.eq_of_getLsbD_eq; intro k hk
  simp only [lo_bit, BitVec.getLsbD_or, hk, decide_true, Bool.true_and]
theorem hi_or (s t : BitVec 128) : hi (s ||| t) = hi s ||| hi t := by
  apply BitVec.eq_of_getLsbD_eq; intro k hk
  simp only [hi_bit, BitVec.getLsbD_or, hk, decide_true, Bool.true_and]
theorem lo_and (s t : BitVec 128) : lo (s &&& t) = lo s &&& lo t := by
  apply BitVec.eq_of_getLsbD_eq; intro k hk
  simp only [lo_bit, BitVec.getLsbD_and, hk, decide_true, Bool.true_and]
theorem hi_and (s t : BitVec 128) : hi (s &&& t) = hi s &&& hi t := by
  apply BitVec.eq_of_getLsbD_eq; intro k hk
  simp only [hi_bit, BitVec.getLsbD_and, hk, decide_true, Bool.true_and]

set_option maxHeartbeats 400000 in
theorem ref16join_c (s t : BitVec 128) (w : World) :
    Calls Try.prog 37 #[SV s, SV t] w (Gives w (SV (s ||| t))) := by
  unfold SV WV
  rw [lo_or, hi_or]
  have H1 := Lib.hid (bits_or (lo s) (lo t))
  have H2 := Lib.hid (bits_or (hi s) (hi t))
  generalize lo s = x1 at *
  generalize hi s = y1 at *
  generalize lo t = x2 at *
  generalize hi t = y2 at *
  go_enter Try.func37, Try.ntmps37
  go_wp2
  exact bodyPost_ret (v := .agg #[.int .u64 (bits .or .u64 (x1.toNat : Int) (x2.toNat : Int)), .int .u64 (bits .or .u64 (y1.toNat : Int) (y2.toNat : Int))]) (by simp [results, Try.results37, go_sem]) rfl ⟨agg2_eq (by rw [H1.out]) (by rw [H2.out]), below3 _ _ _ _⟩

def meetB (s t : BitVec 128) : Bool := !decide (s &&& t = 0#128)
theorem meetB_words (s t : BitVec 128) : meetB s t = (!decide (lo s &&& lo t = 0#64) || !decide (hi s &&& hi t = 0#64)) := by
  unfold meetB
  rw [← lo_and, ← hi_and]
  generalize s &&& t = u
  rw [Bool.eq_iff_iff]
  simp only [Bool.or_eq_true, Bool.not_eq_true', decide_eq_false_iff_not]
  constructor
  · intro h
    by_cases h1 : lo u = 0#64
    · right; intro h2; exact h (words_ext (by rw [h1]; decide) (by rw [h2]; decide))
    · left; exact h1
  · rintro (h | h) e
    · subst e; exact h (by decide)
    · subst e; exact h (by decide)
theorem toNat_zero_beq (x : BitVec 64) : ((x.toNat : Int) != 0) = !decide (x = 0#64) := by
  by_cases h : x = 0#64
  · subst h; rfl
  · have : x.toNat ≠ 0 := fun e => h (BitVec.eq_of_toNat_eq (by simpa using e))
    rw [decide_eq_false h]
    simp only [Bool.not_false, bne_iff_ne, ne_eq]; omega

set_option maxHeartbeats 400000 in
theorem ref16meet_c (s t : BitVec 128) (w : World) :
    Calls Try.prog 54 #[SV s, SV t] w (Gives w (.bool (meetB s t))) := by
  unfold SV WV
  rw [meetB_words]
  have H1 := Lib.hid (bits_and (lo s) (lo t))
  have H2 := Lib.hid (bits_and (hi s) (hi t))
  have H3 := Lib.hid (toNat_zero_beq (lo s &&& lo t))
  have H4 := Lib.hid (toNat_zero_beq (hi s &&& hi t))
  generalize lo s = x1 at *
  generalize hi s = y1 at *
  generalize lo t = x2 at *
  generalize hi t = y2 at *
  have e1 : ∃ b, Hid ((bits .and .u64 (x1.toNat : Int) (x2.toNat : Int) != 0) = b) ∧ Hid (b = !decide (x1 &&& x2 = 0#64)) := ⟨_, rfl, by rw [H1.out]; exact H3.out⟩
  have e2 : ∃ b, Hid ((bits .and .u64 (y1.toNat : Int) (y2.toNat : Int) != 0) = b) ∧ Hid (b = !decide (y1 &&& y2 = 0#64)) := ⟨_, rfl, by rw [H2.out]; exact H4.out⟩
  obtain ⟨b1, E1, E1'⟩ := e1
  obtain ⟨b2, E2, E2'⟩ := e2
  rw [← E1'.out, ← E2'.out]
  cases b1
  all_goals
    have f1 := E1.out
    have f2 := E2.out
    go_enter Try.func54, Try.ntmps54
    go_wp2
    go_ret
    exact ⟨by first | rfl | simp, below2 _ _ _⟩

def leastV (s : BitVec 128) : Int := (((List.range 128).find? fun k => s.getLsbD k).map fun k => (k : Int) + 1).getD 0
theorem leastV_some {s : BitVec 128} {v : Int} (h1 : sHas s v = true) (h2 : ∀ u, 1 ≤ u → u < v → sHas s u = false) : leastV s = v := by
  obtain ⟨hv1, hv2⟩ := sHas_mem h1
  unfold leastV
  have : (List.range 128).find? (fun k => s.getLsbD k) = some (v - 1).toNat := by
    rw [List.find?_eq_some_iff_getElem]
    refine ⟨by simpa [sHas, hv1, hv2] using h1, (v - 1).toNat, by simp; omega, by simp, ?_⟩
    intro j hj
    have h3 := h2 (j + 1) (by omega) (by omega)
    simp [sHas, show (1 : Int) ≤ (j : Int) + 1 by omega, show ((j : Int) + 1) ≤ 128 by omega] at h3
    simp [h3]
  rw [this]; simp; omega
theorem leastV_none {s : BitVec 128} (h : ∀ u, 1 ≤ u → u ≤ 128 → sHas s u = false) : leastV s = 0 := by
  unfold leastV
  have : (List.range 128).find? (fun k => s.getLsbD k) = none := by
    rw [List.find?_eq_none]
    intro k hk
    have h3 := h (k + 1) (by omega) (by have := List.mem_range.1 hk; omega)
    simpa [sHas, show (1 : Int) ≤ (k : Int) + 1 by omega, show ((k : Int) + 1) ≤ 128 by have := List.mem_range.1 hk; omega] using h3
  rw [this]; rfl

set_option maxHeartbeats 400000 in
theorem ref16least_c (s : BitVec 128) (w : World) :
    Calls Try.prog 38 #[SV s] w (Gives w (.int .i64 (leastV s))) := by
  have hp := fun v w h1 h2 => ref04In_c s v w h1 h2
  unfold SV WV Gives at *
  generalize hlo : lo s = x at *
  generalize hhi : hi s = y at *
  clear hlo hhi
  have HP := Lib.hid hp
  clear hp
  go_enter Try.func38, Try.ntmps38
  go_wp2
  go_loopw [3] (fun i wr => ∃ k : Int, 1 ≤ k ∧ k ≤ 129 ∧ i = .int .i64 k ∧ Hid (∀ v, 1 ≤ v → v < k → sHas s v = false) ∧ Two wr w.heap.size 31 (.int .u64 (x.toNat : Int)) (.int .u64 (y.toNat : Int)) ∧ Below w.heap.size w wr) (fun i _ => (129 - intOf i).toNat)
  case atStart => exact ⟨1, by omega, by omega, rfl, by intro v hv hv2; omega, Two.new _ _ _ _, below1 _ _⟩
  case round =>
    obtain ⟨k, hk1, hk2, rfl, hno, hv, hb⟩ := hrel
    have l1 := hv.lt
    have g0 := hv.c0
    have g1 := hv.c1
    by_cases hlt : k ≤ 128
    · have hp := fun w => HP.out k w hk1 hlt
      cases hq : sHas s k
      all_goals
        simp only [hq] at hp
        have HQ := Lib.hid hq
        clear hq
        go_wp2_with (go_at_call 20; refine (hp _).mono ?_; rintro e w1 ⟨rfl, hb1⟩)
      · have hv1 := hv.below hb1 l1
        go_roundw
        case rel => exact ⟨k + 1, by omega, by omega, rfl, by intro v h3 h4; by_cases e : v < k; exact hno.out v h3 e; (obtain rfl : v = k := by omega); exact HQ.out, hv1, hb.trans (hb1.mono hb.size)⟩
        case measure => simp [intOf]; omega
      · go_ret
        exact ⟨congrArg (fun x => Ending.returned (.int .i64 x)) (leastV_some HQ.out hno.out).symm, hb.trans (hb1.mono hb.size)⟩
    · go_wp2
      go_ret
      exact ⟨congrArg (fun x => Ending.returned (.int .i64 x)) (leastV_none (fun u h1 h2 => hno.out u h1 (by omega))).symm, hb⟩

def litVars (xs : List Int) : BitVec 128 := xs.foldl (fun s l => sWith s (litVar l)) 0#128
theorem litVars_snoc (xs : List Int) (l : Int) : litVars (xs ++ [l]) = sWith (litVars xs) (litVar l) := by unfold litVars; rw [List.foldl_append]; rfl

set_option maxHeartbeats 1000000 in
theorem ref16vars_c {F : Foot} {w : World} {v : Value} {xs : List Int} (h : Ints F w v xs) (hr : ∀ y ∈ xs, 1 ≤ litVar y) :
    Calls Try.prog 35 #[v] w (Gives w (SV (litVars xs))) := by
  obtain ⟨a, n, c, rfl, hn, _, hm, _⟩ := h.open
  unfold LenMax at hm
  have HI := Lib.hid h
  have HE := Lib.hid hn
  have HR := Lib.hid hr
  clear h hn hr
  go_enter Try.func35, Try.ntmps35
  go_wp2
  go_loopw [4] (fun i wr => ∃ k : Nat, k ≤ n ∧ i = .int .i64 k ∧ Two wr (w.heap.size + 1) 31 (WV (lo (litVars (xs.take k)))) (WV (hi (litVars (xs.take k)))) ∧ Two wr w.heap.size 31 (WV 0) (WV 0) ∧ Below w.heap.size w wr) (fun i _ => n - (intOf i).toNat)
  case atStart =>
    refine ⟨0, Nat.zero_le _, rfl, ?_, (Two.new w _ _ _).alloc _, below2 _ _ _⟩
    have := Two.new (w.alloc (Obj.cells #[Value.int IntKind.u64 0, Value.int IntKind.u64 0] 31)) 31 (WV 0) (WV 0)
    rw [show lo (litVars (xs.take 0)) = 0 by simp [litVars]; decide, show hi (litVars (xs.take 0)) = 0 by simp [litVars]; decide]
    rw [show w.heap.size + 1 = (w.alloc (Obj.cells #[Value.int IntKind.u64 0, Value.int IntKind.u64 0] 31)).heap.size by simp]
    exact this
  case round =>
    obtain ⟨k, hk, rfl, hv, hrr, hb⟩ := hrel
    have l1 := hv.lt
    by_cases hlt : k < n
    · have hI : Ints F wr (.slice a n c) xs := Enc.below _ HI.out hb
      obtain ⟨b, o, rfl, hcell, hy⟩ := hI.at k hlt
      have HM := Lib.hid (getD_mem xs k (by have := HE.out; omega) 0)
      have HS := Lib.hid (take_succ_getD xs k (by have := HE.out; omega) 0)
      clear hI
      generalize xs.getD k 0 = z at *
      have hz := HR.out z HM.out
      have hz2 := litVar_range z
      have HSN := Lib.hid (litVars_snoc (xs.take k) z)
      have hp := fun W => ref04Var_c z W hy
      have hq := fun W => ref16with_c (litVars (xs.take k)) (litVar z) W hz hz2.2
      rw [← litVars_snoc] at hq
      generalize litVars (xs.take k) = s0 at *
      generalize hs1 : litVars (xs.take k ++ [z]) = s1 at *
      have HV1 : Hid (s1 = litVars (xs.take (k + 1))) := by unfold Hid; rw [HS.out, hs1]
      clear hs1
      unfold SV WV Gives at hq
      have HY := Lib.hid hy
      clear hy hz hz2
      have p0 := fun g => cell_plus hv.c0 g
      have p1 := fun g => cell_plus hv.c1 g
      have p2 := fun g => cell_plus hcell g
      have hk0 : (0 : Int) ≤ k := by omega
      have hk1 : (k : Int) < n := by omega
      clear hcell
      go_wp2
      refine wp_region_grow_tail (by kernel_rfl) (by kernel_rfl) (by kernel_rfl) ?_
      simp only [swapLast, idle, lastOp]
      repeat (go_big_quiet_step ((first | (go_at_call 53; exact Calls.grow_of ((hp _).mono fun _ _ ⟨he, hw⟩ => ⟨he, hw ▸ below0 _⟩)) | (go_at_call 39; exact Calls.grow_of (hq _)))))
      refine wpQuiet_nil ?_
      intro _ hw1
      obtain ⟨gg, hw2⟩ := hw1
      subst hw2
      have hv1 := hv.below (below_plus wr gg) l1
      have hr1 := hrr.below (below_plus wr gg) hrr.lt
      have hb1 := hb.trans ((below_plus wr gg).mono hb.size)
      clear p0 p1 p2 hp hq
      have c0 := hv1.c0
      have c1 := hv1.c1
      have f0 := hv1.f 0
      have f1 := hv1.f 1
      generalize plus wr gg = w1 at *
      go_wp2
      go_roundw
      case rel => exact ⟨k + 1, by omega, by go_num, by rw [← HV1.out]; exact hv1.set _ _, (hr1.other _ (by simp) _).other _ (by simp) _, (hb1.setCell (by simp) _).setCell (by simp) _⟩
      case measure => simp [intOf]; omega
    · rw [List.take_of_length_le (by have := HE.out; omega)] at hv
      have g0 := hv.c0
      have g1 := hv.c1
      have r0 := hrr.c0
      have r1 := hrr.c1
      have rf0 := hrr.f 0
      have rf1 := hrr.f 1
      have q := hrr.set (WV (lo (litVars xs))) (WV (hi (litVars xs)))
      have q0 := q.c0
      have q1 := q.c1
      clear q
      go_wp2
      exact bodyPost_ret (v := .agg #[WV (lo (litVars xs)), WV (hi (litVars xs))]) (by simp [results, Try.results35, go_sem, q0, q1]) rfl ⟨rfl, (hb.setCell (by simp) _).setCell (by simp) _⟩
end Go.Proofs.Ytekeidhndlnghaa
