/- Contracts of slices.IndexFunc, slices.ContainsFunc, lit.valid, lit.opposite; no condition. -/
import Derived.Test.YtkollnaojpppcaaLit
namespace Go.Proofs.Ytkollnaojpppcaa
open Go.RowKit

/-- A call of a function with a body enters it. -/
theorem enters_fn {P : Program} {f : FuncId} {fn : Func} {c : Code} (hf : P.funcs[f]? = some fn) (hname : (fn.name == "runtime.NumGoroutine") = false) (hb : fn.body = some c) :
    ∀ args w, (callFunc f args).run P w = .ok (.enter f args) w := by
  intro args w
  have h1 : fn.name ≠ "runtime.NumGoroutine" := by simpa using hname
  simp [callFunc, hf, h1, hb, mark]

set_option maxHeartbeats 400000 in
theorem indexFunc_c {F : Foot} {w : World} {v : Value} {xs : List Int} (p : Int → Bool) (K : FuncId) (cb : Array Value)
    (eg : ∀ args w, (callFunc K args).run Try.prog w = .ok (.enter K args) w)
    (hf : ∀ y ∈ xs, ∀ W, Below w.heap.size w W → Calls Try.prog K (#[.int .i64 y] ++ cb) W (Gives W (.bool (p y))))
    (h : Ints F w v xs) :
    Calls Try.prog 90 #[v, .func (.func K) #[] cb] w fun e w' => ∃ r : Int, e = .returned (.int .i64 r) ∧ Below w.heap.size w w' ∧ (decide (0 ≤ r) = xs.any p) := by
  obtain ⟨a, n, c, rfl, hn, _, hm, hc⟩ := h.open
  unfold LenMax at hm
  have HI := Lib.hid h
  have HE := Lib.hid hn
  have HF := Lib.hid hf
  clear hn h hf hc
  go_enter Try.func90, Try.ntmps90
  go_wp2
  go_loopw [8] (fun i wr => ∃ k : Nat, k ≤ n ∧ i = .int .i64 k ∧ Hid (∀ y ∈ xs.take k, p y = false) ∧ Below w.heap.size w wr) (fun i _ => n - (intOf i).toNat)
  case atStart => exact ⟨0, Nat.zero_le _, rfl, by intro y hy; simp at hy, below0 _⟩
  case round =>
    obtain ⟨k, hk, rfl, hno, hb⟩ := hrel
    by_cases hlt : k < n
    · have hI : Ints F wr (.slice a n c) xs := Enc.below _ HI.out hb
      obtain ⟨b, o, rfl, hcell, hr⟩ := hI.at k hlt
      have HM := Lib.hid (getD_mem xs k (by have := HE.out; omega) 0)
      have HS := Lib.hid (take_succ_getD xs k (by have := HE.out; omega) 0)
      clear hI
      generalize xs.getD k 0 = y at *
      have hp := HF.out y HM.out wr hb
      have HR := Lib.hid hr
      clear hr
      cases hq : p y
      all_goals
        simp only [hq] at hp
        have HQ := Lib.hid hq
        have HP := Lib.hid hp
        clear hq hp
        go_wp2_with fail
        refine HP.out.mono ?_
        rintro e w1 ⟨rfl, hb1⟩
        clear hcell
        go_wp2
      · go_roundw
        case rel => exact ⟨k + 1, by omega, by go_num, by intro z hz; rw [HS.out, List.mem_append, List.mem_singleton] at hz; rcases hz with hz | rfl; exact hno.out z hz; exact HQ.out, hb.trans (hb1.mono hb.size)⟩
        case measure => simp [intOf]; omega
      · go_ret
        exact ⟨_, rfl, hb.trans (hb1.mono hb.size), by rw [List.any_eq_true.2 ⟨y, HM.out, HQ.out⟩]; simp⟩
    · go_wp2
      go_ret
      have hall := hno.out
      rw [List.take_of_length_le (by have := HE.out; omega)] at hall
      exact ⟨_, rfl, hb, by rw [List.any_eq_false.2 (fun y hy hb => by rw [hall y hy] at hb; cases hb)]; simp⟩

set_option maxHeartbeats 400000 in
theorem containsFunc_c {F : Foot} {w : World} {v : Value} {xs : List Int} (p : Int → Bool) (K : FuncId) (cb : Array Value)
    (eg : ∀ args w, (callFunc K args).run Try.prog w = .ok (.enter K args) w)
    (hf : ∀ y ∈ xs, ∀ W, Below w.heap.size w W → Calls Try.prog K (#[.int .i64 y] ++ cb) W (Gives W (.bool (p y))))
    (h : Ints F w v xs) :
    Calls Try.prog 68 #[v, .func (.func K) #[] cb] w (Gives w (.bool (xs.any p))) := by
  have hp := indexFunc_c p K cb eg hf h
  clear hf eg h
  go_enter Try.func68, Try.ntmps68
  go_wp2_with fail
  refine hp.mono ?_
  rintro e w' ⟨r, rfl, hb, hr⟩
  have HR := Lib.hid hr
  clear hr hp
  go_wp2
  go_ret
  exact ⟨congrArg (fun b => Ending.returned (.bool b)) HR.out, hb⟩

theorem Ints.range {F : Foot} {w : World} {v : Value} {xs : List Int} (h : Ints F w v xs) : ∀ y ∈ xs, I64 y := by
  obtain ⟨a, n, c, rfl, hn, _, hm, hc⟩ := h.open
  intro y hy
  obtain ⟨k, hk, rfl⟩ := List.mem_iff_getElem.1 hy
  obtain ⟨_, _, _, _, hr⟩ := hc k (by omega)
  simpa [List.getD, hk] using hr

set_option maxHeartbeats 400000 in
theorem litvalidFn_c (y n : Int) (g : Nat) (W : World) (hy : I64 y) (hc : W.cell? ⟨g, 0, none⟩ = some (.int .i64 n)) :
    Calls Try.prog 75 #[.int .i64 y, .pointer (some ⟨g, 0, none⟩)] W fun e w' => e = .returned (.bool (!litOk y n)) ∧ W = w' := by
  have hp := fun w => litValid_c y n w hy
  have HY := Lib.hid hy
  clear hy
  generalize litOk y n = t at *
  go_enter Try.func75, Try.ntmps75
  go_wp2_with (go_at_call 36; refine (hp _).mono ?_; rintro e w' ⟨rfl, rfl⟩)
  go_ret
  exact ⟨rfl, rfl⟩

set_option maxHeartbeats 400000 in
theorem litvalid_c {F : Foot} {w : World} {v : Value} {xs : List Int} (n : Int) (h : Ints F w v xs) :
    Calls Try.prog 61 #[v, .int .i64 n] w (Gives w (.bool (xs.all fun y => litOk y n))) := by
  have hmf : ∀ (fn : Fn) (first cap : Array Value) (w : World), (Instr.makeFunc fn first cap).run Try.prog w = .ok (.func fn first cap) w := fun _ _ _ _ => rfl
  have eg : ∀ args w, (callFunc 75 args).run Try.prog w = .ok (.enter 75 args) w := enters_fn Try.func75 (by kernel_rfl) rfl
  have hcell : (w.alloc (.cells #[.int .i64 n] 3)).cell? ⟨w.heap.size, 0, none⟩ = some (.int .i64 n) := by
    rw [World.cell?_alloc_at _ _ _ _ rfl]; rfl
  have h1 : Ints F (w.alloc (.cells #[.int .i64 n] 3)) v xs := Enc.below _ h (below1 _ _)
  have hp := containsFunc_c (w := w.alloc (.cells #[.int .i64 n] 3)) (fun y => !litOk y n) 75 #[.pointer (some ⟨w.heap.size, 0, none⟩)] eg (fun y hy W hb => by
    refine (litvalidFn_c y n w.heap.size W (Ints.range h y hy) ?_).mono fun e w' ⟨he, hw⟩ => ⟨he, hw ▸ below0 _⟩
    rw [hb.cell (p := ⟨w.heap.size, 0, none⟩) (by simp)]; exact hcell) h1
  have HE := Lib.hid (show (xs.all fun y => litOk y n) = !(xs.any fun y => !litOk y n) by rw [List.any_eq_not_all_not]; simp)
  generalize hany : (xs.any fun y => !litOk y n) = t at *
  rw [HE.out]
  clear hany hcell h1 h eg
  go_enter Try.func61, Try.ntmps61
  go_wp2_with fail
  refine hp.mono ?_
  rintro e w1 ⟨rfl, hb⟩
  go_wp2
  go_ret
  exact ⟨rfl, (below1 _ _).trans (hb.mono (by simp))⟩

/-- Two neighbours are opposite. -/
def adjOpp : List Int → Bool
  | [] => false
  | [_] => false
  | x :: y :: r => decide (y = -x) || adjOpp (y :: r)
theorem adjOpp_iff (xs : List Int) : adjOpp xs = true ↔ ∃ k : Nat, k + 1 < xs.length ∧ xs.getD (k + 1) 0 = -xs.getD k 0 := by
  induction xs with
  | nil => simp [adjOpp]
  | cons x r ih =>
    cases r with
    | nil => simp [adjOpp]
    | cons y r =>
      rw [adjOpp, Bool.or_eq_true, ih, decide_eq_true_eq]
      constructor
      · rintro (h | ⟨k, h1, h2⟩)
        · exact ⟨0, by simp, by simpa using h⟩
        · exact ⟨k + 1, by simpa using h1, by simpa using h2⟩
      · rintro ⟨k, h1, h2⟩
        cases k with
        | zero => left; simpa using h2
        | succ k => right; exact ⟨k, by simpa using h1, by simpa using h2⟩

set_option maxHeartbeats 400000 in
theorem litopposite_c {F : Foot} {w : World} {v : Value} {xs : List Int} (h : Ints F w v xs) (hr : ∀ y ∈ xs, -128 ≤ y ∧ y ≤ 128) :
    Calls Try.prog 63 #[v] w (Gives w (.bool (adjOpp xs))) := by
  obtain ⟨a, n, c, rfl, hn, _, hm, hc⟩ := h.open
  unfold LenMax at hm
  have HE := Lib.hid hn
  have HR := Lib.hid hr
  clear h hn hr
  go_enter Try.func63, Try.ntmps63
  go_wp2
  go_loopw [3] (fun i wr => ∃ k : Nat, 1 ≤ k ∧ i = .int .i64 k ∧ Hid (k ≤ n ∨ k = 1) ∧ Hid (∀ j, j + 1 < k → j + 1 < n → xs.getD (j + 1) 0 ≠ -xs.getD j 0) ∧ ∃ q, wr = w.drewN q) (fun i _ => n + 1 - (intOf i).toNat)
  case atStart => exact ⟨1, by omega, rfl, .inr rfl, by intro j hj; omega, 0, rfl⟩
  case round =>
    obtain ⟨k, hk, rfl, hkn, hno, q, rfl⟩ := hrel
    by_cases hlt : k < n
    · obtain ⟨b, o, rfl, hcell, _⟩ := hc k hlt
      obtain ⟨b', o', he, hcell', _⟩ := hc (k - 1) (by omega)
      cases he
      have r1 := HR.out _ (getD_mem xs k (by have := HE.out; omega) 0)
      have r2 := HR.out _ (getD_mem xs (k - 1) (by have := HE.out; omega) 0)
      clear hc
      have HX : ∃ x, Hid (xs.getD k 0 = x) := ⟨_, rfl⟩
      have HY : ∃ y, Hid (xs.getD (k - 1) 0 = y) := ⟨_, rfl⟩
      obtain ⟨x, HX⟩ := HX
      obtain ⟨y, HY⟩ := HY
      rw [HX.out] at hcell r1
      rw [HY.out] at hcell' r2
      obtain ⟨r1a, r1b⟩ := r1
      obtain ⟨r2a, r2b⟩ := r2
      have hk0 : (0 : Int) ≤ k := by omega
      have hk1 : (k : Int) < n := by omega
      have hk2 : (0 : Int) ≤ (k : Int) - 1 := by omega
      have hk3 : (k : Int) - 1 < n := by omega
      have hk4 : IntKind.i64.wrap ((k : Int) - 1) = (k : Int) - 1 := IntWalk.i64_in _ (by omega)
      have hk5 : ((k : Int) - 1).toNat = k - 1 := by omega
      have hk6 : IntKind.i64.wrap (-y) = -y := IntWalk.i64_in _ (by omega)
      go_wp2
      go_quiet (fail)
      clear hk4 hk5 hk6
      by_cases he : x = -y
      · have hbe : (x == -y) = true := by simp [he]
        have HZ := Lib.hid he
        clear he
        go_wp2
        go_ret
        exact ⟨congrArg (fun b => Ending.returned (.bool b)) (by rw [eq_comm, adjOpp_iff]; exact ⟨k - 1, by have := HE.out; omega, by rw [show k - 1 + 1 = k by omega, HX.out, HY.out, HZ.out]⟩), by first | exact ⟨rfl, rfl, rfl, by simp, fun _ _ => by simp⟩ | exact below0 _⟩
      · have hbe : (x == -y) = false := by simp [he]
        have HZ := Lib.hid he
        clear he
        go_wp2
        go_roundw
        case rel => exact ⟨k + 1, by omega, by go_num, .inl (by omega), by intro j hj hj2; by_cases e : j + 1 < k; exact hno.out j e hj2; (obtain rfl : j = k - 1 := by omega); rw [show k - 1 + 1 = k by omega, HX.out, HY.out]; exact HZ.out, _, rfl⟩
        case measure => simp [intOf]; omega
    · go_wp2
      go_ret
      exact ⟨congrArg (fun b => Ending.returned (.bool b)) (by
        rw [eq_comm, Bool.eq_false_iff]; intro h; rw [adjOpp_iff] at h
        obtain ⟨j, h1, h2⟩ := h
        exact hno.out j (by have := HE.out; omega) (by have := HE.out; omega) h2), by first | exact ⟨rfl, rfl, rfl, by simp, fun _ _ => by simp⟩ | exact below0 _⟩
end Go.Proofs.Ytkollnaojpppcaa
