/- Arguments whose slices take as many bytes as memory bears: theories, nets, claims; no condition. -/
import Derived.Test.YtllkogdgmmcfgaaGreatDoorVvG
import Derived.Test.YtllkogdgmmcfgaaGreatDoorCvG
import Derived.SizedLaws
import Derived.Test.YtllkogdgmmcfgaaGreatDoorWl
/- Lz23: Arguments whose slices take as many bytes as memory bears: theories, nets, claims; no condition. -/
namespace Go.Proofs.YtllkogdgmmcfgaaGreatDoor
set_option linter.unusedVariables false
set_option linter.unusedSimpArgs false
set_option linter.unusedSectionVars false
open Go.RowKit Go.WideShapes Go.ChangeShapes Go.ChangeAt
set_option maxRecDepth 100000
section
variable {H : Type} {enc : TypeId × Value → H} {P : Program} {W : World}
def OpensZ (enc : TypeId × Value → H) (P : Program) (W : World) (t : TypeId) (Q : List AV → Prop) : Prop :=
 ∀ base sp held fuel cs x, DataW.trod enc P W base sp held fuel t cs = some x → (∀ k ∈ x.1.weights P t, k ≤ reachBytes) → ∃ row, RowR W row cs ∧ Q row
theorem OpensZ.mono {t : TypeId} {Q Q' : List AV → Prop} (h : OpensZ enc P W t Q) (hq : ∀ r, Q r → Q' r) : OpensZ enc P W t Q' := fun b sp hd f cs x hx hw => by
 obtain ⟨r, h1, h2⟩ := h b sp hd f cs x hx hw
 exact ⟨r, h1, hq r h2⟩
theorem Opens.sized {t : TypeId} {Q : List AV → Prop} (h : Opens enc P W t Q) : OpensZ enc P W t Q := fun b sp hd f cs x hx _ => h b sp hd f cs x hx
theorem wAll_mem {e : TypeId} : ∀ {l : List (DataW H)} {d : DataW H}, d ∈ l → ∀ n ∈ d.weights P e, n ∈ DataW.weightsAll P e l
 | d' :: r, d, hd, n, hn => by
  simp only [DataW.weightsAll, List.mem_append]
  rcases List.mem_cons.1 hd with rfl | h
  ·exact Or.inl hn
  ·exact Or.inr (wAll_mem h n hn)
theorem sized_at {ts : List TypeId} {ds : List (DataW H)} (h : (DataW.weightsEach P ts ds).all (· ≤ reachBytes) = true) {j : Nat} {t : TypeId} {d : DataW H} (ht : ts[j]? = some t) (hd : ds[j]? = some d) : (d.weights P t).all (· ≤ reachBytes) = true :=
 List.all_eq_true.2 fun k hk => List.all_eq_true.1 h k (DataW.weights_mem_each ht hd k hk)
theorem opensZ_slice {t e : TypeId} {sz : Nat} {Q : List AV → Prop} (ht : P.underlying t = some (.slice e)) (hsz : P.cellsOf e = sz) (h0 : 0 < sz) (he : OpensZ enc P W e Q) :
  OpensZ enc P W t (fun r => ∃ xs, r = [.sl sz xs] ∧ xs.length * P.bytesOf e ≤ reachBytes ∧ ∀ q ∈ xs, Q q) := fun b sp hd f cs x hx hw => by
 rcases Go.Deep.open_slice ht hx with ⟨rfl, _⟩ | ⟨a, len, cap, m, n, D, Pl, rfl, hb, hl, hm, hmm, hxe, hel⟩
 ·exact ⟨_, .one rfl (rv_nil0 sz), [], rfl, by simp, fun q hq => by cases hq⟩
 ·have hlm : len ≤ m := by rw [hmm]; split <;> omega
  rw [hxe] at hw
  simp only [DataW.weights, ht, List.mem_cons, List.mem_append, List.length_map, List.length_range] at hw
  have hby : len * P.bytesOf e ≤ reachBytes := Nat.le_trans (Nat.mul_le_mul_right _ (by omega)) (hw _ (.inl rfl))
  have hwe : ∀ i, i < len → ∀ k ∈ (D i).weights P e, k ≤ reachBytes := fun i hi k hk => hw k (.inr (.inl (wAll_mem (List.mem_map.2 ⟨i, by simpa using hi, rfl⟩) k hk)))
  have hmx : len ≤ AMax := by have : maxLen = AMax := rfl; omega
  by_cases hz : len = 0
  ·subst hz
   exact ⟨_, .one rfl (.sl sz [] (some a) 0 cap (fun _ _ => undef) rfl hl (Nat.zero_le _) (fun h => by cases h) (fun i hi => by simp at hi) (fun hp => by simp at hp) (fun i j hi => by simp at hi) (fun i j hi => by simp at hi)), [], rfl, by simp, fun q hq => by cases hq⟩
  ·obtain ⟨bb, o, rfl⟩ : ∃ bb o, a = ⟨bb, o, none⟩ := by
    obtain ⟨cs', h1, _⟩ := hel 0 (by omega)
    obtain ⟨_, h5, h6⟩ := World.cells?_some h1
    rw [hsz] at h5 h6
    have h7 := h6 0 h0
    rw [List.getElem?_eq_getElem (by omega)] at h7
    have := World.cell?_spot h7
    obtain ⟨b', o', s'⟩ := a
    have hs : s' = none := by simpa [Addr.add] using this
    exact ⟨b', o', by rw [hs]⟩
   have key : ∀ i, i < len → ∃ row : List AV, Q row ∧ row.length = sz ∧ ∃ cs' : List Value, cs'.length = sz ∧ RowR W row cs' ∧ ∀ j, j < sz → W.cell? ⟨bb, o + i * sz + j, none⟩ = some (cs'.getD j undef) := fun i hi => by
    obtain ⟨cs', h1, h2⟩ := hel i (by omega)
    obtain ⟨row, h3, h4⟩ := he _ _ _ _ _ _ h2 (hwe i hi)
    obtain ⟨_, h5, h6⟩ := World.cells?_some h1
    rw [hsz] at h5 h6
    refine ⟨row, h4, by rw [h3.1, h5], cs', h5, h3, fun j hj => ?_⟩
    have := h6 j hj
    rw [Go.WideShapes.add_plain, Go.WideShapes.add_plain] at this
    rw [this]
    simp [List.getD, show j < cs'.length by omega]
   obtain ⟨R, hR⟩ := Go.Deep.choose_lt (p := fun i (row : List AV) => Q row ∧ row.length = sz ∧ ∃ cs' : List Value, cs'.length = sz ∧ RowR W row cs' ∧ ∀ j, j < sz → W.cell? ⟨bb, o + i * sz + j, none⟩ = some (cs'.getD j undef)) key
   obtain ⟨C, hC⟩ := Go.Deep.choose_lt (p := fun i (cs' : List Value) => cs'.length = sz ∧ RowR W (R i) cs' ∧ ∀ j, j < sz → W.cell? ⟨bb, o + i * sz + j, none⟩ = some (cs'.getD j undef)) (fun i hi => (hR i hi).2.2)
   have hget : ∀ i, i < len → ((List.range len).map R).getD i [] = R i := fun i hi => by simp [List.getD, hi]
   refine ⟨_, .one rfl (.sl sz ((List.range len).map R) (some ⟨bb, o, none⟩) len cap (fun i j => (C i).getD j undef) (by simp) hl hmx (fun h => by cases h) (fun i hi => ?_) (fun hp => ?_) (fun i j hi hj => ?_) (fun i j hi hj => ?_)), _, rfl, by
    simpa using hby, fun q hq => ?_⟩
   ·simp only [List.length_map, List.length_range] at hi
    rw [hget i hi]; exact (hR i hi).2.1
   ·refine ⟨bb, o, rfl, fun i j hi hj => ?_⟩
    simp only [List.length_map, List.length_range] at hi
    exact (hC i hi).2.2 j hj
   ·simp only [List.length_map, List.length_range] at hi
    have h1 := (hC i hi).2.1
    exact (h1.2 j (by rw [(hC i hi).1]; exact hj)).1
   ·simp only [List.length_map, List.length_range] at hi
    have h1 := (hC i hi).2.1
    rw [hget i hi]
    exact (h1.2 j (by rw [(hC i hi).1]; exact hj)).2
   ·obtain ⟨i, hi, rfl⟩ := List.mem_map.1 hq
    exact (hR i (by simpa using hi)).1
theorem opensZ_st2 {t t0 t1 : TypeId} {c0 c1 : Nat} {f0 f1 : Field} {Q0 Q1 : List AV → Prop} (ht : P.underlying t = some (.struct #[f0, f1])) (e0 : f0.type = t0) (e1 : f1.type = t1) (o0 : f0.offset = 0) (o1 : f1.offset = c0)
  (k0 : P.cellsOf t0 = c0) (k1 : P.cellsOf t1 = c1) (kt : P.cellsOf t = c0 + c1) (h0 : OpensZ enc P W t0 Q0) (h1 : OpensZ enc P W t1 Q1) : OpensZ enc P W t (fun r => ∃ r0 r1, r = r0 ++ r1 ∧ Q0 r0 ∧ Q1 r1) := fun b sp hd f cs x hx hw => by
 obtain ⟨xs, n, _, hxe, hl, hn, hf⟩ := DataW.trod_struct ht hx
 have g0 := hf 0 f0 rfl
 have g1 := hf 1 f1 rfl
 simp only [List.size_toArray, List.length_cons, List.length_nil] at hn
 rw [e0, o0, k0, List.drop_zero, List.getElem?_eq_getElem (by omega)] at g0
 rw [e1, o1, k1, List.getElem?_eq_getElem (by omega)] at g1
 have hxs : xs = [xs[0], xs[1]] := by match xs, hn with | [_, _], _ => rfl
 rw [hxe, hxs] at hw
 simp only [DataW.weights, ht, DataW.weightsEach, List.map_cons, List.map_nil, List.append_nil, List.mem_append, e0, e1] at hw
 obtain ⟨r0, p0, q0⟩ := h0 _ _ _ _ _ _ g0 (fun k hk => hw k (.inl hk))
 obtain ⟨r1, p1, q1⟩ := h1 _ _ _ _ _ _ g1 (fun k hk => hw k (.inr hk))
 refine ⟨r0 ++ r1, ?_, r0, r1, rfl, q0, q1⟩
 have := p0.cat p1
 rw [List.take_of_length_le (l := cs.drop c0) (by simp; omega), List.take_append_drop] at this
 exact this
theorem opensZ_st3 {t t0 t1 t2 : TypeId} {c0 c1 c2 : Nat} {f0 f1 f2 : Field} {Q0 Q1 Q2 : List AV → Prop} (ht : P.underlying t = some (.struct #[f0, f1, f2])) (e0 : f0.type = t0) (e1 : f1.type = t1) (e2 : f2.type = t2) (o0 : f0.offset = 0) (o1 : f1.offset = c0) (o2 : f2.offset = c0 + c1)
  (k0 : P.cellsOf t0 = c0) (k1 : P.cellsOf t1 = c1) (k2 : P.cellsOf t2 = c2) (kt : P.cellsOf t = c0 + c1 + c2) (h0 : OpensZ enc P W t0 Q0) (h1 : OpensZ enc P W t1 Q1) (h2 : OpensZ enc P W t2 Q2) : OpensZ enc P W t (fun r => ∃ r0 r1 r2, r = r0 ++ (r1 ++ r2) ∧ Q0 r0 ∧ Q1 r1 ∧ Q2 r2) := fun b sp hd f cs x hx hw => by
 obtain ⟨xs, n, _, hxe, hl, hn, hf⟩ := DataW.trod_struct ht hx
 have g0 := hf 0 f0 rfl
 have g1 := hf 1 f1 rfl
 have g2 := hf 2 f2 rfl
 simp only [List.size_toArray, List.length_cons, List.length_nil] at hn
 rw [e0, o0, k0, List.drop_zero, List.getElem?_eq_getElem (by omega)] at g0
 rw [e1, o1, k1, List.getElem?_eq_getElem (by omega)] at g1
 rw [e2, o2, k2, List.getElem?_eq_getElem (by omega)] at g2
 have hxs : xs = [xs[0], xs[1], xs[2]] := by match xs, hn with | [_, _, _], _ => rfl
 rw [hxe, hxs] at hw
 simp only [DataW.weights, ht, DataW.weightsEach, List.map_cons, List.map_nil, List.append_nil, List.mem_append, e0, e1, e2] at hw
 obtain ⟨r0, p0, q0⟩ := h0 _ _ _ _ _ _ g0 (fun k hk => hw k (.inl hk))
 obtain ⟨r1, p1, q1⟩ := h1 _ _ _ _ _ _ g1 (fun k hk => hw k (.inr (.inl hk)))
 obtain ⟨r2, p2, q2⟩ := h2 _ _ _ _ _ _ g2 (fun k hk => hw k (.inr (.inr hk)))
 refine ⟨r0 ++ (r1 ++ r2), ?_, r0, r1, r2, rfl, q0, q1, q2⟩
 have := p0.cat (p1.cat p2)
 rw [List.take_of_length_le (l := cs.drop (c0 + c1)) (by simp; omega), ← List.drop_drop, List.take_append_drop, List.take_append_drop] at this
 exact this
theorem argZ_agg {base : Nat} {sp : Nat → Bool} {held : Bool} {t : TypeId} {v : Value} {d : DataW H} {p : List MemPlace} {Q : List AV → Prop} (ht : (∃ fs, P.underlying t = some (.struct fs)) ∨ ∃ n e, P.underlying t = some (.array n e))
  (hval : Value.okWide P W .any base t v) (h : DataW.Trod enc P W 0 sp held t v d p) (hz : (d.weights P t).all (· ≤ reachBytes) = true) (ho : OpensZ enc P W t Q) : ∃ row, Rv (G0 (allS W)) (.agg row) v ∧ Q row := by
 obtain ⟨arr, rfl, _⟩ : ∃ cs, v = .agg cs ∧ cs.size = P.cellsOf t := by
  rcases ht with ⟨fs, ht⟩ | ⟨n, e, ht⟩ <;> (simp only [Value.okWide, ht] at hval; obtain ⟨cs, h1, h2, _⟩ := hval; exact ⟨cs, h1, h2⟩)
 obtain ⟨fuel, h⟩ := h
 obtain ⟨row, h1, h2⟩ := ho _ _ _ _ _ _ h fun k hk => of_decide_eq_true (List.all_eq_true.1 hz k hk)
 obtain ⟨h3, h4⟩ := h1
 simp only [Value.cells] at h3 h4
 refine ⟨row, Rv.agg' (by simpa using h3.symm) (fun x hx => ?_) (fun i hi => ?_), h2⟩
 ·obtain ⟨i, hi, rfl⟩ := Array.getElem_of_mem hx
  have := (h4 i (by simpa using hi)).1
  simpa [List.getD, hi] using this
 ·have := (h4 i (by omega)).2
  simpa [List.getD, Array.getD_eq_getD_getElem?] using this
end
theorem rowsZ_ex : ∀ (ys : List (List AV)), (∀ q ∈ ys, ∃ xs, q = [aInts xs] ∧ okInts xs = true) → ∃ L : List (List Int), ys = L.map (fun xs => [aInts xs]) ∧ L.all okInts = true
 | [], _ => ⟨[], rfl, rfl⟩
 | y :: ys, h => by
  obtain ⟨xs, rfl, hx⟩ := h y (by simp)
  obtain ⟨L, rfl, hL⟩ := rowsZ_ex ys fun q hq => h q (List.mem_cons_of_mem _ hq)
  exact ⟨xs :: L, rfl, by simp [hx, hL]⟩
def okNdZ (x : Nd) : Bool := okI x.1 && okI x.2.1 && okInts x.2.2
def okNZ (ns : List Nd) : Bool := decide (ns.length ≤ 5864062014805) && ns.all okNdZ
theorem ndsZ_ex : ∀ (ys : List (List AV)), (∀ q ∈ ys, ∃ k l xs, q = [.v (.int .i64 k), .v (.int .i64 l), aInts xs] ∧ okI k = true ∧ okI l = true ∧ okInts xs = true) → ∃ ns : List Nd, ys = ns.map (fun x => [AV.v (.int .i64 x.1), .v (.int .i64 x.2.1), aInts x.2.2]) ∧ ns.all okNdZ = true
 | [], _ => ⟨[], rfl, rfl⟩
 | y :: ys, h => by
  obtain ⟨k, l, xs, rfl, h1, h2, h3⟩ := h y (by simp)
  obtain ⟨ns, rfl, hn⟩ := ndsZ_ex ys fun q hq => h q (List.mem_cons_of_mem _ hq)
  exact ⟨(k, l, xs) :: ns, rfl, by simp only [List.all_cons, okNdZ, h1, h2, h3, hn, Bool.and_self]⟩
def okLC (l : List Cl) : Bool := (l.all fun p => okInts p.1 && okInts p.2) && decide (l.length ≤ 5864062014805)
theorem clsZ_ex : ∀ (ys : List (List AV)), (∀ q ∈ ys, ∃ ts cs, q = [aInts ts, aInts cs] ∧ okInts ts = true ∧ okInts cs = true) → ∃ l : List Cl, ys = l.map (fun p => [aInts p.1, aInts p.2]) ∧ (l.all fun p => okInts p.1 && okInts p.2) = true
 | [], _ => ⟨[], rfl, rfl⟩
 | y :: ys, h => by
  obtain ⟨ts, cs, rfl, h1, h2⟩ := h y (by simp)
  obtain ⟨l, rfl, hl⟩ := clsZ_ex ys fun q hq => h q (List.mem_cons_of_mem _ hq)
  exact ⟨(ts, cs) :: l, rfl, by simp only [List.all_cons, h1, h2, hl, Bool.and_self]⟩
section
variable {H : Type} {enc : TypeId × Value → H} {W : World}
theorem opensZ_ints : OpensZ enc Tryz.prog W 30 (fun r => ∃ xs, r = [aInts xs] ∧ okInts xs = true) :=
 (opensZ_slice (sz := 1) Tryz.underlying30 (by kernel_rfl) (by omega) (opens_int Tryz.underlying3).sized).mono fun r h => by
  obtain ⟨ys, rfl, hl, hy⟩ := h
  obtain ⟨xs, rfl, hx⟩ := ints_ex ys hy
  refine ⟨xs, rfl, ?_⟩
  have hb : Tryz.prog.bytesOf 3 = 8 := by kernel_rfl
  rw [hb, List.length_map] at hl
  unfold reachBytes at hl
  simp only [okInts, hx, Bool.true_and, decide_eq_true_eq]
  omega
theorem opensZ_rows : OpensZ enc Tryz.prog W 22 (fun r => ∃ L, r = [aRows L] ∧ okRows L = true) :=
 (opensZ_slice (sz := 1) Tryz.underlying22 (by kernel_rfl) (by omega) opensZ_ints).mono fun r h => by
  obtain ⟨ys, rfl, hl, hy⟩ := h
  obtain ⟨L, rfl, hx⟩ := rowsZ_ex ys hy
  refine ⟨L, rfl, ?_⟩
  have hb : Tryz.prog.bytesOf 30 = 24 := by kernel_rfl
  rw [hb, List.length_map] at hl
  unfold reachBytes at hl
  simp only [okRows, hx, Bool.true_and, decide_eq_true_eq]
  omega
theorem opensZ_th : OpensZ enc Tryz.prog W 24 (fun r => ∃ N L, r = [.v (.int .i64 N), aRows L] ∧ okI N = true ∧ okRows L = true) :=
 (opensZ_st2 (t0 := 3) (t1 := 22) (c0 := 1) (c1 := 1) Tryz.underlying24 rfl rfl rfl rfl (by kernel_rfl) (by kernel_rfl) (by kernel_rfl) opens_i64.sized opensZ_rows).mono fun r h => by
  obtain ⟨_, _, rfl, ⟨N, rfl, hN⟩, L, rfl, hL⟩ := h
  exact ⟨N, L, rfl, hN, hL⟩
theorem argZ_th {base : Nat} {sp : Nat → Bool} {held : Bool} {v : Value} {d : DataW H} {p : List MemPlace} (hval : Value.okWide Tryz.prog W .any base 24 v) (h : DataW.Trod enc Tryz.prog W 0 sp held 24 v d p) (hz : (d.weights Tryz.prog 24).all (· ≤ reachBytes) = true) :
  ∃ N L, Rv (G0 (allS W)) (.agg [.v (.int .i64 N), aRows L]) v ∧ okI N = true ∧ okRows L = true := by
 obtain ⟨row, h1, N, L, rfl, h2, h3⟩ := argZ_agg (.inl ⟨_, Tryz.underlying24⟩) hval h hz opensZ_th
 exact ⟨N, L, h1, h2, h3⟩
theorem opensZ_nd : OpensZ enc Tryz.prog W 32 (fun r => ∃ k l xs, r = [.v (.int .i64 k), .v (.int .i64 l), aInts xs] ∧ okI k = true ∧ okI l = true ∧ okInts xs = true) :=
 (opensZ_st3 (t0 := 3) (t1 := 3) (t2 := 30) (c0 := 1) (c1 := 1) (c2 := 1) Tryz.underlying32 rfl rfl rfl rfl rfl rfl (by kernel_rfl) (by kernel_rfl) (by kernel_rfl) (by kernel_rfl) opens_i64.sized opens_i64.sized opensZ_ints).mono fun r h => by
  obtain ⟨_, _, _, rfl, ⟨k, rfl, h1⟩, ⟨l, rfl, h2⟩, xs, rfl, h3⟩ := h
  exact ⟨k, l, xs, rfl, h1, h2, h3⟩
theorem opensZ_nds : OpensZ enc Tryz.prog W 26 (fun r => ∃ ns : List Nd, r = [aNds ns] ∧ okNZ ns = true) :=
 (opensZ_slice (sz := 3) Tryz.underlying26 (by kernel_rfl) (by omega) opensZ_nd).mono fun r h => by
  obtain ⟨ys, rfl, hl, hy⟩ := h
  obtain ⟨ns, rfl, hx⟩ := ndsZ_ex ys hy
  refine ⟨ns, rfl, ?_⟩
  have hb : Tryz.prog.bytesOf 32 = 40 := by kernel_rfl
  rw [hb, List.length_map] at hl
  unfold reachBytes at hl
  simp only [okNZ, hx, Bool.and_true, decide_eq_true_eq]
  omega
theorem opensZ_net : OpensZ enc Tryz.prog W 28 (fun r => ∃ N ns, r = [.v (.int .i64 N), aNds ns] ∧ okI N = true ∧ okNZ ns = true) :=
 (opensZ_st2 (t0 := 3) (t1 := 26) (c0 := 1) (c1 := 1) Tryz.underlying28 rfl rfl rfl rfl (by kernel_rfl) (by kernel_rfl) (by kernel_rfl) opens_i64.sized opensZ_nds).mono fun r h => by
  obtain ⟨_, _, rfl, ⟨N, rfl, hN⟩, ns, rfl, hL⟩ := h
  exact ⟨N, ns, rfl, hN, hL⟩
theorem argZ_net {base : Nat} {sp : Nat → Bool} {held : Bool} {v : Value} {d : DataW H} {p : List MemPlace} (hval : Value.okWide Tryz.prog W .any base 28 v) (h : DataW.Trod enc Tryz.prog W 0 sp held 28 v d p) (hz : (d.weights Tryz.prog 28).all (· ≤ reachBytes) = true) :
  ∃ N ns, Rv (G0 (allS W)) (aNet N ns) v ∧ okI N = true ∧ okNZ ns = true := by
 obtain ⟨row, h1, N, ns, rfl, h2, h3⟩ := argZ_agg (.inl ⟨_, Tryz.underlying28⟩) hval h hz opensZ_net
 exact ⟨N, ns, h1, h2, h3⟩
theorem opensZ_cl : OpensZ enc Tryz.prog W 37 (fun r => ∃ ts cs, r = [aInts ts, aInts cs] ∧ okInts ts = true ∧ okInts cs = true) :=
 (opensZ_st2 (t0 := 30) (t1 := 30) (c0 := 1) (c1 := 1) Tryz.underlying37 rfl rfl rfl rfl (by kernel_rfl) (by kernel_rfl) (by kernel_rfl) opensZ_ints opensZ_ints).mono fun r h => by
  obtain ⟨_, _, rfl, ⟨N, rfl, hN⟩, L, rfl, hL⟩ := h
  exact ⟨N, L, rfl, hN, hL⟩
theorem argZ_cl {base : Nat} {sp : Nat → Bool} {held : Bool} {v : Value} {d : DataW H} {p : List MemPlace} (hval : Value.okWide Tryz.prog W .any base 37 v) (h : DataW.Trod enc Tryz.prog W 0 sp held 37 v d p) (hz : (d.weights Tryz.prog 37).all (· ≤ reachBytes) = true) :
  ∃ ts cs, Rv (G0 (allS W)) (.agg [aInts ts, aInts cs]) v ∧ okInts ts = true ∧ okInts cs = true := by
 obtain ⟨row, h1, ts, cs, rfl, h2, h3⟩ := argZ_agg (.inl ⟨_, Tryz.underlying37⟩) hval h hz opensZ_cl
 exact ⟨ts, cs, h1, h2, h3⟩
theorem opensZ_cls : OpensZ enc Tryz.prog W 38 (fun r => ∃ l : List Cl, r = [aCls l] ∧ okLC l = true) :=
 (opensZ_slice (sz := 2) Tryz.underlying38 (by kernel_rfl) (by omega) opensZ_cl).mono fun r h => by
  obtain ⟨ys, rfl, hl, hy⟩ := h
  obtain ⟨l, rfl, hx⟩ := clsZ_ex ys hy
  refine ⟨l, rfl, ?_⟩
  have hb : Tryz.prog.bytesOf 37 = 48 := by kernel_rfl
  rw [hb, List.length_map] at hl
  unfold reachBytes at hl
  simp only [okLC, hx, Bool.true_and, decide_eq_true_eq]
  omega
theorem argZ_one {sp : Nat → Bool} {held : Bool} {t : TypeId} {v : Value} {d : DataW H} {p : List MemPlace} {Q : List AV → Prop} (hv : v.cells.toList = [v])
  (h : DataW.Trod enc Tryz.prog W 0 sp held t v d p) (hz : (d.weights Tryz.prog t).all (· ≤ reachBytes) = true) (ho : OpensZ enc Tryz.prog W t Q) : ∃ a, Rv (G0 (allS W)) a v ∧ Q [a] := by
 obtain ⟨fuel, h⟩ := h
 rw [hv] at h
 obtain ⟨row, h1, h2⟩ := ho _ _ _ _ _ _ h fun k hk => of_decide_eq_true (List.all_eq_true.1 hz k hk)
 obtain ⟨h3, h4⟩ := h1
 match row, h3 with
 | [a], _ => exact ⟨a, by simpa using (h4 0 (by simp)).2, h2⟩
theorem argZ_cls {base : Nat} {sp : Nat → Bool} {held : Bool} {v : Value} {d : DataW H} {p : List MemPlace} (hval : Value.okWide Tryz.prog W .any base 38 v) (h : DataW.Trod enc Tryz.prog W 0 sp held 38 v d p) (hz : (d.weights Tryz.prog 38).all (· ≤ reachBytes) = true) :
  ∃ l, Rv (G0 (allS W)) (aCls l) v ∧ okLC l = true := by
 obtain ⟨a, h1, x, h2, h3⟩ := argZ_one (cells_slice Tryz.underlying38 hval) h hz opensZ_cls
 cases h2
 exact ⟨x, h1, h3⟩
theorem argZ_ints {base : Nat} {sp : Nat → Bool} {held : Bool} {v : Value} {d : DataW H} {p : List MemPlace} (hval : Value.okWide Tryz.prog W .any base 30 v) (h : DataW.Trod enc Tryz.prog W 0 sp held 30 v d p) (hz : (d.weights Tryz.prog 30).all (· ≤ reachBytes) = true) :
  ∃ xs, Rv (G0 (allS W)) (aInts xs) v ∧ okInts xs = true := by
 obtain ⟨a, h1, x, h2, h3⟩ := argZ_one (cells_slice Tryz.underlying30 hval) h hz opensZ_ints
 cases h2
 exact ⟨x, h1, h3⟩
end
end Go.Proofs.YtllkogdgmmcfgaaGreatDoor
/- Fu23: Which proofs are looked at; no condition. -/
namespace Go.Proofs.YtllkogdgmmcfgaaGreatDoor
set_option linter.unusedVariables false
set_option linter.unusedSimpArgs false
set_option linter.unusedSectionVars false
open Go.RowKit
open Wlk
attribute [-simp] List.getD_eq_getElem?_getD
set_option maxRecDepth 100000
theorem any_take_step {α : Type} {f : α → Bool} {l : List α} {k : Nat} {d : α} (hk : k < l.length) (h : (l.take k).any f = false) (hf : f (l.getD k d) = false) : (l.take (k + 1)).any f = false := by
 have e : l.getD k d = l[k] := by simp [List.getD, hk]
 rw [List.take_succ_eq_append_getElem hk, List.any_append, h, ← e]; simp [hf]
theorem any_take_yes {α : Type} {f : α → Bool} {l : List α} {k : Nat} {d : α} (hk : k < l.length) (hf : f (l.getD k d) = true) : l.any f = true := by
 rw [List.any_eq_true]
 exact ⟨l.getD k d, by simp [List.getD, hk], hf⟩
def sumW (L : List (List Int)) : Int := L.foldl (fun k c => IntKind.i64.wrap (k + (c.length : Int))) 0
def sumNW (ns : List Nd) : Int := ns.foldl (fun m x => IntKind.i64.wrap (m + (x.2.2.length : Int))) 0
theorem sumW_succ {L : List (List Int)} {k : Nat} (hk : k < L.length) : sumW (L.take (k + 1)) = IntKind.i64.wrap (sumW (L.take k) + ((L.getD k []).length : Int)) := by
 have e : L.getD k [] = L[k] := by simp [List.getD, hk]
 unfold sumW
 rw [List.take_succ_eq_append_getElem hk, List.foldl_append, e]; rfl
theorem sumNW_succ {ns : List Nd} {k : Nat} (hk : k < ns.length) : sumNW (ns.take (k + 1)) = IntKind.i64.wrap (sumNW (ns.take k) + ((ns.getD k nd0).2.2.length : Int)) := by
 have e : ns.getD k nd0 = ns[k] := by simp [List.getD, hk]
 unfold sumNW
 rw [List.take_succ_eq_append_getElem hk, List.foldl_append, e]; rfl
def clB (p : Cl) : Bool := decide (p.1.length ≤ 100) && decide (p.2.length ≤ 100)
def fewP (L : List (List Int)) (ns : List Nd) (cl : List Cl) : Bool := cl.all clB && (decide (L.length ≤ 60) && (decide (sumW L ≤ 300) && (decide (ns.length ≤ 100) && (decide (sumNW ns ≤ 400) && decide (cl.length ≤ 110)))))
theorem okLC_len {cl : List Cl} (h : okLC cl = true) : cl.length ≤ 5864062014805 := by
 unfold okLC at h
 rw [Bool.and_eq_true, decide_eq_true_eq] at h; exact h.2
theorem okNZ_len {ns : List Nd} (h : okNZ ns = true) : ns.length ≤ 5864062014805 := by
 unfold okNZ at h
 rw [Bool.and_eq_true, decide_eq_true_eq] at h; exact h.1
theorem okLC_at {cl : List Cl} (h : okLC cl = true) {k : Nat} (hk : k < cl.length) : okInts (cl.getD k ([], [])).1 = true ∧ okInts (cl.getD k ([], [])).2 = true := by
 unfold okLC at h
 rw [Bool.and_eq_true] at h
 have := List.all_eq_true.1 h.1 _ (cl_mem hk)
 rwa [Bool.and_eq_true] at this
theorem okNZ_at {ns : List Nd} (h : okNZ ns = true) {k : Nat} (hk : k < ns.length) : okInts (ns.getD k nd0).2.2 = true := by
 unfold okNZ at h
 rw [Bool.and_eq_true] at h
 have := List.all_eq_true.1 h.2 (ns.getD k nd0) (by simp [List.getD, hk])
 unfold okNdZ at this
 rw [Bool.and_eq_true] at this
 exact this.2
theorem clB_step {cl : List Cl} {k : Nat} (hk : k < cl.length) (h : (cl.take k).all clB = true) : (cl.take (k + 1)).all clB = clB (cl.getD k ([], [])) := by
 have e : cl.getD k ([], []) = cl[k] := by simp [List.getD, hk]
 rw [List.take_succ_eq_append_getElem hk, List.all_append, h, e]; simp
theorem clB_no {cl : List Cl} {k : Nat} (hk : k < cl.length) (h : clB (cl.getD k ([], [])) = false) : cl.all clB = false := by
 rw [List.all_eq_false]
 exact ⟨_, cl_mem hk, by rw [h]; decide⟩
set_option maxHeartbeats 4000000 in
theorem few23_p (N : Int) (L : List (List Int)) (M : Int) (ns : List Nd) (cl : List Cl) (hL : okRows L = true) (hns : okNZ ns = true) (hcl : okLC cl = true) : FnPure Tryz.prog 9 [aTh N L, aNet M ns, aCls cl] (.v (.bool (fewP L ns cl))) := by
 have hm := okRows_len hL
 have hnl := okNZ_len hns
 have hcll := okLC_len hcl
 unfold aTh aNet aNds aCls
 refine fn_sp TT_ok Tryz.func9 (c := _) rfl (by simp [Tryz.ntmps9]) (fun B hI0 hro => ?_)
 rw [Tryz.ntmps9]
 simp only [enumA]
 refine amGo PT206_ok (h := ?_)
 refine s_loop (J := fun i : {k : Nat // k ≤ L.length} => ⟨88, [(2, aCls cl), (3, .ptr 0 0 0), (4, .ptr 1 0 0), (6, .v (.bool false)), (7, .v (.int .i64 (sumW (L.take i.1)))), (8, .v (.int .i64 (i.1 : Int)))], [(0, ⟨24, 2, [[.v (.int .i64 N), aRows L]]⟩), (1, ⟨28, 2, [[.v (.int .i64 M), aNds ns]]⟩)], [1, 0]⟩) (μ := fun i => L.length - i.1) ⟨0, Nat.zero_le _⟩ ?_ (fun ⟨k, hk⟩ => ?_)
 ·have h0 : sumW [] = 0 := rfl
  (refine weak_id rfl ?_ ?_ <;> ((try simp only [List.mem_cons, List.not_mem_nil, or_false, forall_eq_or_imp, forall_eq]); (try simp (disch := omega) [i64w, *])))
  all_goals rfl
 refine amStr (h := ?_)
 refine amReg PT206_ok (h := ?_)
 refine amStr (h := ?_)
 (focus ((with_reducible refine sp_cond (b := ?_) ?_ (fun hc => ?_) (fun hc => ?_)); rotate_left; (focus (first | rfl | (simp [lk, AS.ev]; rfl))); all_goals (try simp at hc)))
 ·have hkk : k < L.length := by omega
  clear hc
  have hci := okInts_len (okRows_at hL k)
  have hss := sumW_succ hkk
  have hwk : IntKind.i64.wrap ((k : Int) + 1) = (k : Int) + 1 := i64s k (by omega)
  obtain ⟨s, hs⟩ : ∃ s, sumW (L.take k) = s := ⟨_, rfl⟩
  rw [hs] at hss
  rw [hs]
  obtain ⟨s2, hs2⟩ : ∃ s2, IntKind.i64.wrap (s + ((L.getD k []).length : Int)) = s2 := ⟨_, rfl⟩
  rw [hs2] at hss
  refine amStr (h := ?_)
  refine amReg PT206_ok (h := ?_)
  refine amStr (h := ?_)
  refine amReg PT206_ok (h := ?_)
  refine k_lp (⟨k + 1, by omega⟩ : {k : Nat // k ≤ L.length}) (by dsimp only; omega) ?_
  (refine weak_id rfl ?_ ?_ <;> ((try simp only [List.mem_cons, List.not_mem_nil, or_false, forall_eq_or_imp, forall_eq]); (try simp (disch := omega) [i64w, *])))
 ·obtain rfl : k = L.length := by omega
  clear hc
  rw [List.take_length]
  obtain ⟨s, hs⟩ : ∃ s, sumW L = s := ⟨_, rfl⟩
  rw [hs]
  refine amStr (h := ?_)
  refine amReg PT206_ok (h := ?_)
  refine amStr (h := ?_)
  refine amReg PT206_ok (h := ?_)
  refine amStr (h := ?_)
  refine s_loop (J := fun i : {k : Nat // k ≤ ns.length} => ⟨88, [(2, aCls cl), (3, .ptr 0 0 0), (4, .ptr 1 0 0), (6, .v (.bool false)), (7, .v (.int .i64 s)), (9, .v (.int .i64 (sumNW (ns.take i.1)))), (10, .v (.int .i64 (i.1 : Int)))], [(0, ⟨24, 2, [[.v (.int .i64 N), aRows L]]⟩), (1, ⟨28, 2, [[.v (.int .i64 M), aNds ns]]⟩)], [1, 0]⟩) (μ := fun i => ns.length - i.1) ⟨0, Nat.zero_le _⟩ ?_ (fun ⟨k, hk⟩ => ?_)
  ·have h0 : sumNW [] = 0 := rfl
   (refine weak_id rfl ?_ ?_ <;> ((try simp only [List.mem_cons, List.not_mem_nil, or_false, forall_eq_or_imp, forall_eq]); (try simp (disch := omega) [i64w, *])))
  try dsimp only
  unfold aNds
  refine amStr (h := ?_)
  refine amReg PT206_ok (h := ?_)
  refine amStr (h := ?_)
  (focus ((with_reducible refine sp_cond (b := ?_) ?_ (fun hc => ?_) (fun hc => ?_)); rotate_left; (focus (first | rfl | (simp [lk, AS.ev]; rfl))); all_goals (try simp at hc)))
  ·have hkk : k < ns.length := by omega
   clear hc
   have hci := okInts_len (okNZ_at hns hkk)
   have hss := sumNW_succ hkk
   have hwk : IntKind.i64.wrap ((k : Int) + 1) = (k : Int) + 1 := i64s k (by omega)
   obtain ⟨m, hs1⟩ : ∃ s, sumNW (ns.take k) = s := ⟨_, rfl⟩
   rw [hs1] at hss
   rw [hs1]
   obtain ⟨m2, hs2⟩ : ∃ s2, IntKind.i64.wrap (m + ((ns.getD k nd0).2.2.length : Int)) = s2 := ⟨_, rfl⟩
   rw [hs2] at hss
   refine amStr (h := ?_)
   refine amReg PT206_ok (h := ?_)
   refine amStr (h := ?_)
   refine amReg PT206_ok (h := ?_)
   refine k_lp (⟨k + 1, by omega⟩ : {k : Nat // k ≤ ns.length}) (by dsimp only; omega) ?_
   (refine weak_id rfl ?_ ?_ <;> ((try simp only [List.mem_cons, List.not_mem_nil, or_false, forall_eq_or_imp, forall_eq]); (try simp (disch := omega) [i64w, *])))
   all_goals rfl
  ·obtain rfl : k = ns.length := by omega
   clear hc
   rw [List.take_length]
   obtain ⟨m, hm2⟩ : ∃ s, sumNW ns = s := ⟨_, rfl⟩
   rw [hm2]
   refine amStr (h := ?_)
   refine amReg PT206_ok (h := ?_)
   refine amStr (h := ?_)
   refine s_loop (J := fun i : {k : Nat // k ≤ cl.length ∧ Hid ((cl.take k).all clB = true)} => ⟨88, [(2, aCls cl), (3, .ptr 0 0 0), (4, .ptr 1 0 0), (6, .v (.bool false)), (7, .v (.int .i64 s)), (9, .v (.int .i64 m)), (11, .v (.int .i64 (i.1 : Int)))], [(0, ⟨24, 2, [[.v (.int .i64 N), aRows L]]⟩), (1, ⟨28, 2, [[.v (.int .i64 M), aNds ns]]⟩)], [1, 0]⟩) (μ := fun i => cl.length - i.1) ⟨0, Nat.zero_le _, Lib.hid rfl⟩ ?_ (fun ⟨k, hk, HB⟩ => ?_)
   ·(refine weak_id rfl ?_ ?_ <;> ((try simp only [List.mem_cons, List.not_mem_nil, or_false, forall_eq_or_imp, forall_eq]); (try simp (disch := omega) [i64w, *])))
    all_goals rfl
   try dsimp only at hk HB
   try dsimp only
   unfold aCls
   refine amStr (h := ?_)
   refine amReg PT206_ok (h := ?_)
   refine amStr (h := ?_)
   (focus ((with_reducible refine sp_cond (b := ?_) ?_ (fun hc => ?_) (fun hc => ?_)); rotate_left; (focus (first | rfl | (simp [lk, AS.ev]; rfl))); all_goals (try simp at hc)))
   ·have hkk : k < cl.length := by omega
    clear hc
    obtain ⟨c1, c2⟩ := okLC_at hcl hkk
    have c1 := okInts_len c1
    have c2 := okInts_len c2
    have hget := cls_get hkk
    have hst := clB_step hkk HB.out
    have hno := clB_no hkk
    have hcb : clB (cl.getD k ([], [])) = (decide ((cl.getD k ([], [])).1.length ≤ 100) && decide ((cl.getD k ([], [])).2.length ≤ 100)) := rfl
    obtain ⟨ts, hts⟩ : ∃ ts, (cl.getD k ([], [])).1 = ts := ⟨_, rfl⟩
    obtain ⟨cs, hcs⟩ : ∃ cs, (cl.getD k ([], [])).2 = cs := ⟨_, rfl⟩
    rw [hts] at c1 hget hcb
    rw [hcs] at c2 hget hcb
    have HST := Lib.hid hst
    have HNO := Lib.hid hno
    have HCB := Lib.hid hcb
    clear hst hno hcb hts hcs
    have hwk : IntKind.i64.wrap ((k : Int) + 1) = (k : Int) + 1 := i64s k (by omega)
    have hki : (k : Int) < (cl.length : Int) := by omega
    by_cases h1 : ts.length ≤ 100
    ·have h1i : ¬ (100 < (ts.length : Int)) := by omega
     by_cases h2 : cs.length ≤ 100
     ·have h2i : ¬ (100 < (cs.length : Int)) := by omega
      refine amStr (h := ?_)
      refine amReg PT206_ok (h := ?_)
      refine amStr (h := ?_)
      refine amReg PT206_ok (h := ?_)
      refine k_lp (⟨k + 1, hkk, Lib.hid (by rw [HST.out, HCB.out, decide_eq_true h1, decide_eq_true h2]; rfl)⟩ : {k : Nat // k ≤ cl.length ∧ Hid ((cl.take k).all clB = true)}) (by dsimp only; omega) ?_
      (refine weak_id rfl ?_ ?_ <;> ((try simp only [List.mem_cons, List.not_mem_nil, or_false, forall_eq_or_imp, forall_eq]); (try simp (disch := omega) [i64w, *])))
      all_goals rfl
     ·have h2i : 100 < (cs.length : Int) := by omega
      have hF : fewP L ns cl = false := by unfold fewP; rw [HNO.out (by rw [HCB.out, decide_eq_false h2, Bool.and_false])]; rfl
      rw [hF]
      refine amStr (h := ?_)
      refine amReg PT206_ok (h := ?_)
      refine amStr (h := ?_)
      refine amReg PT206_ok (h := ?_)
      refine amStr (h := ?_)
      (refine amRt Tryz.results9 (h := ?_); try simp [*])
    ·have h1i : 100 < (ts.length : Int) := by omega
     have hF : fewP L ns cl = false := by unfold fewP; rw [HNO.out (by rw [HCB.out, decide_eq_false h1, Bool.false_and])]; rfl
     rw [hF]
     refine amStr (h := ?_)
     refine amReg PT206_ok (h := ?_)
     refine amStr (h := ?_)
     refine amReg PT206_ok (h := ?_)
     refine amStr (h := ?_)
     (refine amRt Tryz.results9 (h := ?_); try simp [*])
   ·obtain rfl : k = cl.length := by omega
    clear hc
    have hall := HB.out
    rw [List.take_length] at hall
    have hF : fewP L ns cl = (decide (L.length ≤ 60) && (decide (s ≤ 300) && (decide (ns.length ≤ 100) && (decide (m ≤ 400) && decide (cl.length ≤ 110))))) := by unfold fewP; rw [hall, hs, hm2]; rfl
    rw [hF]
    clear hF hall
    refine amStr (h := ?_)
    unfold aNds
    by_cases h1 : L.length ≤ 60
    ·have h1i : (L.length : Int) ≤ 60 := by omega
     by_cases h2 : s ≤ 300
     ·by_cases h3 : ns.length ≤ 100
      ·have h3i : (ns.length : Int) ≤ 100 := by omega
       by_cases h4 : m ≤ 400
       ·by_cases h5 : cl.length ≤ 110
        ·have h5i : (cl.length : Int) ≤ 110 := by omega
         refine amReg PT206_ok (h := ?_)
         refine amStr (h := ?_)
         (refine amRt Tryz.results9 (h := ?_); try simp [*])
        ·have h5i : ¬ ((cl.length : Int) ≤ 110) := by omega
         refine amReg PT206_ok (h := ?_)
         refine amStr (h := ?_)
         (refine amRt Tryz.results9 (h := ?_); try simp [*])
       ·refine amReg PT206_ok (h := ?_)
        refine amStr (h := ?_)
        (refine amRt Tryz.results9 (h := ?_); try simp [*])
      ·have h3i : ¬ ((ns.length : Int) ≤ 100) := by omega
       refine amReg PT206_ok (h := ?_)
       refine amStr (h := ?_)
       (refine amRt Tryz.results9 (h := ?_); try simp [*])
     ·refine amReg PT206_ok (h := ?_)
      refine amStr (h := ?_)
      (refine amRt Tryz.results9 (h := ?_); try simp [*])
    ·have h1i : ¬ ((L.length : Int) ≤ 60) := by omega
     refine amReg PT206_ok (h := ?_)
     refine amStr (h := ?_)
     (refine amRt Tryz.results9 (h := ?_); try simp [*])
end Go.Proofs.YtllkogdgmmcfgaaGreatDoor
/- Wx23: The rows of few and works; no condition. -/
namespace Go.Proofs.YtllkogdgmmcfgaaGreatDoor
set_option linter.unusedVariables false
set_option linter.unusedSimpArgs false
set_option linter.unusedSectionVars false
open Go.RowKit
set_option maxRecDepth 100000
@[simp] def g_few23 : List AV → Option (AV × Bool)
 | [.agg [.v (.int .i64 N), a0], .agg [.v (.int .i64 M), a1], a2] => (match toRows a0 with | some L => (match toNds a1 with | some ns => (match toCls a2 with | some cl => if (okI N && okRows L && okNZ ns && okLC cl) = true then some (.v (.bool (fewP L ns cl)), false) else none | none => none) | none => none) | none => none)
 | _ => none
theorem e_few23 : EntOk Tryz.prog 9 g_few23 := ent_pure (by kernel_rfl) fun args r fr h => by
 unfold g_few23 at h
 split at h
 ·rename_i N a0 M a1 a2
  split at h
  ·rename_i L t0
   split at h
   ·rename_i ns t1
    split at h
    ·rename_i cl t2
     split at h
     ·rename_i hc
      simp only [Bool.and_eq_true] at hc
      obtain ⟨⟨⟨m0, o0⟩, o1⟩, o2⟩ := hc
      cases h
      exact ⟨FnPure.cov (few23_p N L M ns cl o0 o1 o2) (.cons (cov_th _ (cov_rows t0)) (.cons (cov_th _ (cov_nds t1)) (.cons (cov_cls t2) .nil))), rfl⟩
     ·cases h
    ·cases h
   ·cases h
  ·cases h
 ·cases h

@[simp] def g_works23 : List AV → Option (AV × Bool)
 | [] => if (true) = true then some (.v (.bool true), false) else none
 | _ => none
theorem e_works23 : EntOk Tryz.prog 10 g_works23 := ent_pure (by kernel_rfl) fun args r fr h => by
 unfold g_works23 at h
 split at h
 ·split at h
  ·rename_i hc
   cases h
   exact ⟨FnPure.cov (works_p) .nil, rfl⟩
  ·cases h
 ·cases h

def l207 : List (FuncId × (List AV → Option (AV × Bool))) :=
 (9, g_few23) :: (10, g_works23) :: l206
theorem l207_ok : ∀ p ∈ l207, EntOk Tryz.prog p.1 p.2 := ent_cons e_few23 (ent_cons e_works23 (l206_ok))
def PT207 : PTab := tab l207
theorem PT207_ok : PTok Tryz.prog PT207 := tab_ok l207_ok
@[simp] theorem PT207_few23 : PT207 9 = g_few23 := rfl
@[simp] theorem PT207_works23 : PT207 10 = g_works23 := rfl
@[simp] theorem PT207_old (f : FuncId) (h : decide (f ≠ 9 ∧ f ≠ 10) = true) : PT207 f = PT206 f := (fun h => Eq.trans (tab_old h.1) (tab_old h.2)) (of_decide_eq_true h)
theorem sumW_le {L : List (List Int)} (h : okRows L = true) : ∀ k, k ≤ L.length → k ≤ 60 → sumW (L.take k) = ((L.take k).map List.length).sum ∧ ((L.take k).map List.length).sum ≤ k * 17592186044416
 | 0, _, _ => ⟨rfl, by simp⟩
 | k + 1, h1, h2 => by
  obtain ⟨i1, i2⟩ := sumW_le h k (by omega) (by omega)
  have e : L.getD k [] = L[k] := by rw [List.getD_eq_getElem?_getD, List.getElem?_eq_getElem h1]; rfl
  have hc := okInts_len (okRows_at h k)
  rw [sumW_succ h1, i1, List.take_succ_eq_append_getElem h1, List.map_append, List.sum_append, ← e]
  have e2 : ([L.getD k []].map List.length).sum = (L.getD k []).length := by simp
  rw [e2]
  refine ⟨?_, by omega⟩
  rw [i64w (by omega) (by omega)]
  omega
theorem sumNW_le {ns : List Nd} (h : okNZ ns = true) : ∀ k, k ≤ ns.length → k ≤ 100 → sumNW (ns.take k) = ((ns.take k).map fun x => x.2.2.length).sum ∧ ((ns.take k).map fun x => x.2.2.length).sum ≤ k * 17592186044416
 | 0, _, _ => ⟨rfl, by simp⟩
 | k + 1, h1, h2 => by
  obtain ⟨i1, i2⟩ := sumNW_le h k (by omega) (by omega)
  have e : ns.getD k nd0 = ns[k] := by rw [List.getD_eq_getElem?_getD, List.getElem?_eq_getElem h1]; rfl
  have hc := okInts_len (okNZ_at h h1)
  rw [sumNW_succ h1, i1, List.take_succ_eq_append_getElem h1, List.map_append, List.sum_append, ← e]
  have e2 : ([ns.getD k nd0].map fun x => x.2.2.length).sum = (ns.getD k nd0).2.2.length := by simp
  rw [e2]
  refine ⟨?_, by omega⟩
  rw [i64w (by omega) (by omega)]
  omega
theorem len_sum {α : Type} {f : α → Nat} : ∀ {l : List α} {x : α}, x ∈ l → f x ≤ (l.map f).sum
 | y :: l, x, h => by
  rw [List.map_cons, List.sum_cons]
  rcases List.mem_cons.1 h with rfl | h
  ·omega
  ·have := len_sum (f := f) h; omega
structure FewR (L : List (List Int)) (ns : List Nd) (cl : List Cl) : Prop where
 hL : okRows L = true
 hns : okNs ns = true
 hcl : okCl cl = true
 lL : L.length ≤ 60
 lc : ∀ c ∈ L, c.length ≤ 300
 ln : ns.length ≤ 100
 li : ∀ x ∈ ns, x.2.2.length ≤ 400
 ll : cl.length ≤ 110
 lp : ∀ p ∈ cl, p.1.length ≤ 100 ∧ p.2.length ≤ 100
theorem few_r {L : List (List Int)} {ns : List Nd} {cl : List Cl} (hL : okRows L = true) (hns : okNZ ns = true) (hcl : okLC cl = true) (h : fewP L ns cl = true) : FewR L ns cl := by
 unfold fewP at h
 simp only [Bool.and_eq_true, decide_eq_true_eq] at h
 obtain ⟨h0, h1, h2, h3, h4, h5⟩ := h
 obtain ⟨a1, _⟩ := sumW_le hL L.length (Nat.le_refl _) h1
 obtain ⟨b1, _⟩ := sumNW_le hns ns.length (Nat.le_refl _) h3
 rw [List.take_length] at a1 b1
 have hi : ∀ x ∈ ns, x.2.2.length ≤ 400 := fun x hx => by
  have := len_sum (f := fun x : Nd => x.2.2.length) hx
  omega
 refine ⟨hL, ?_, ?_, h1, fun c hc => ?_, h3, hi, h5, fun p hp => ?_⟩
 ·unfold okNs
  rw [Bool.and_eq_true, decide_eq_true_eq]
  refine ⟨by omega, List.all_eq_true.2 fun x hx => ?_⟩
  unfold okNZ at hns
  rw [Bool.and_eq_true] at hns
  have h6 := List.all_eq_true.1 hns.2 x hx
  unfold okNdZ at h6
  unfold okNd
  rw [h6, decide_eq_true (hi x hx)]; rfl
 ·unfold okCl
  unfold okLC at hcl
  rw [Bool.and_eq_true] at hcl ⊢
  exact ⟨decide_eq_true (by omega), hcl.1⟩
 ·have := len_sum (f := List.length) hc
  omega
 ·have := List.all_eq_true.1 h0 p hp
  unfold clB at this
  rw [Bool.and_eq_true, decide_eq_true_eq, decide_eq_true_eq] at this
  exact this
end Go.Proofs.YtllkogdgmmcfgaaGreatDoor
