/- The second loop of parts.Split in plain words; families of its objects; no condition. -/
import Derived.Test.YtekeidhndlnghaaPp16
import Derived.Test.YtekeidhndlnghaaAm26
namespace Go.Proofs.Ytekeidhndlnghaa
set_option linter.unusedVariables false
set_option linter.unusedSimpArgs false
set_option linter.unusedSectionVars false
open Go.RowKit
set_option maxRecDepth 100000
def ensK (K : List Nat) (v : Nat) : List Nat := if v ∈ K then K else K ++ [v]
def keyV (r : Nat → Nat) (L : List (List Int)) (ts : List Int) (i : Int) : Nat := r (litVar ((restL (L.getD i.toNat []) ts).getD 0 0)).toNat
def addV (s : BitVec 128) (xs : List Int) : BitVec 128 := xs.foldl (fun s x => sWith s (litVar x)) s
theorem addV_succ (s : BitVec 128) {xs : List Int} {j : Nat} (hj : j < xs.length) : addV s (xs.take (j + 1)) = sWith (addV s (xs.take j)) (litVar (xs.getD j 0)) := by
  have e : xs.getD j 0 = xs[j] := by simp [List.getD, hj]
  unfold addV
  rw [List.take_succ_eq_append_getElem hj, List.foldl_append, e]
  rfl
def upG (G : Nat → PrtL) (v : Nat) (p : PrtL) : Nat → PrtL := fun w => if w = v then p else G w
theorem upG_at (G : Nat → PrtL) (v : Nat) (p : PrtL) : upG G v p v = p := if_pos rfl
theorem upG_ne (G : Nat → PrtL) {v w : Nat} (p : PrtL) (h : w ≠ v) : upG G v p w = G w := if_neg h
theorem upG_up (G : Nat → PrtL) (v : Nat) (p q : PrtL) : upG (upG G v p) v q = upG G v q := by funext w; unfold upG; split <;> rfl
def kStep (r : Nat → Nat) (L : List (List Int)) (ts : List Int) (s : List Nat × (Nat → PrtL)) (i : Int) : List Nat × (Nat → PrtL) :=
  (ensK s.1 (keyV r L ts i), upG s.2 (keyV r L ts i) (addV (s.2 (keyV r L ts i)).1 (restL (L.getD i.toNat []) ts), (s.2 (keyV r L ts i)).2 ++ [i]))
def kState (r : Nat → Nat) (L : List (List Int)) (ts : List Int) (fi : List Int) (k : Nat) : List Nat × (Nat → PrtL) := (fi.take k).foldl (kStep r L ts) ([], fun _ => (0#128, []))
theorem kState_zero (r : Nat → Nat) (L : List (List Int)) (ts : List Int) (fi : List Int) : kState r L ts fi 0 = ([], fun _ => (0#128, [])) := rfl
theorem kState_succ (r : Nat → Nat) (L : List (List Int)) (ts : List Int) {fi : List Int} {k : Nat} (hk : k < fi.length) : kState r L ts fi (k + 1) = kStep r L ts (kState r L ts fi k) (fi.getD k 0) := by
  have e : fi.getD k 0 = fi[k] := by simp [List.getD, hk]
  unfold kState
  rw [List.take_succ_eq_append_getElem hk, List.foldl_append, e]
  rfl
theorem ensK_mem (K : List Nat) (v : Nat) : v ∈ ensK K v := by unfold ensK; split <;> simp [*]
theorem ensK_mono {K : List Nat} {v w : Nat} (h : w ∈ K) : w ∈ ensK K v := by unfold ensK; split <;> simp [*]
theorem ensK_or {K : List Nat} {v w : Nat} (h : w ∈ ensK K v) : w ∈ K ∨ w = v := by
  unfold ensK at h
  split at h
  · exact .inl h
  · simpa using h
theorem ensK_nodup {K : List Nat} (v : Nat) (h : K.Nodup) : (ensK K v).Nodup := by
  unfold ensK
  split
  · exact h
  · rename_i hv
    rw [List.nodup_append]
    exact ⟨h, by simp, fun a ha b hb e => by simp at hb; subst hb; subst e; exact hv ha⟩
theorem nodup_len : ∀ (n : Nat) (K : List Nat), K.Nodup → (∀ v ∈ K, v < n) → K.length ≤ n
  | 0, K, _, h => by
    cases K with
    | nil => exact Nat.le_refl _
    | cons a K => exact absurd (h a List.mem_cons_self) (by omega)
  | n + 1, K, hn, h => by
    have ih := nodup_len n (K.erase n) (hn.erase n) (fun v hv => by
      have h1 := (List.Nodup.mem_erase_iff hn).1 hv
      have h2 := h v h1.2
      have h3 := h1.1
      omega)
    have h3 := List.length_erase (a := n) (l := K)
    split at h3 <;> omega
structure KInv (k : Nat) (s : List Nat × (Nat → PrtL)) : Prop where
  nd : s.1.Nodup
  rg : ∀ v ∈ s.1, 1 ≤ v ∧ v < 129
  out : ∀ v, v ∉ s.1 → s.2 v = (0#128, [])
  len : ∀ v, (s.2 v).2.length ≤ k
theorem KInv.card {k : Nat} {s : List Nat × (Nat → PrtL)} (h : KInv k s) : s.1.length ≤ 129 := nodup_len 129 s.1 h.nd fun v hv => (h.rg v hv).2
theorem KInv.start : KInv 0 ([], fun _ => (0#128, [])) := ⟨by simp, fun v hv => (by cases hv), fun v _ => rfl, fun v => Nat.le_refl _⟩
theorem KInv.step {k : Nat} {s : List Nat × (Nat → PrtL)} (h : KInv k s) {r : Nat → Nat} {L : List (List Int)} {ts : List Int} {i : Int} (h1 : 1 ≤ keyV r L ts i) (h2 : keyV r L ts i < 129) : KInv (k + 1) (kStep r L ts s i) := by
  refine ⟨ensK_nodup _ h.nd, fun v hv => ?_, fun v hv => ?_, fun v => ?_⟩
  · rcases ensK_or hv with hv | rfl
    · exact h.rg v hv
    · exact ⟨h1, h2⟩
  · have hne : v ≠ keyV r L ts i := fun e => hv (by rw [e]; exact ensK_mem _ _)
    show upG _ _ _ v = _
    rw [upG_ne _ _ hne]
    exact h.out v fun hm => hv (ensK_mono hm)
  · show (upG _ _ _ v).2.length ≤ _
    by_cases e : v = keyV r L ts i
    · subst e; rw [upG_at]
      have := h.len (keyV r L ts i)
      simp only [List.length_append, List.length_singleton]; omega
    · rw [upG_ne _ _ e]; exact Nat.le_succ_of_le (h.len v)
theorem idx_lt {K : List Nat} {v : Nat} (h : v ∈ K) : K.idxOf v < K.length := List.idxOf_lt_length_of_mem h
theorem idx_get {K : List Nat} {v : Nat} (h : v ∈ K) : K.getD (K.idxOf v) 0 = v := by
  have := idx_lt h
  simp [List.getD, this]
theorem idx_ne {K : List Nat} (hn : K.Nodup) {v j : Nat} (hj : j < K.length) (hne : j ≠ K.idxOf v) : K.getD j 0 ≠ v := by
  intro e
  apply hne
  have e2 : K.getD j 0 = K[j] := by simp [List.getD, hj]
  rw [e2] at e
  subst e
  exact (List.Nodup.idxOf_getElem hn j hj).symm
def clO (p : PrtL) : AObj := ⟨3, 1, p.2.map fun x => [.v (.int .i64 x)]⟩
def ptO (j : Nat) (p : PrtL) : AObj := ⟨44, 3, [[.v (.int .u64 ((lo p.1).toNat : Int)), .v (.int .u64 ((hi p.1).toNat : Int)), .ref (1000 + j) 0 p.2.length]]⟩
def fams (K : List Nat) (G : Nat → PrtL) : List (Nat × AObj) := famF 1000 K.length (fun j => clO (G (K.getD j 0))) ++ famF 20000 K.length (fun j => ptO j (G (K.getD j 0)))
def fmI (K : List Nat) : List Nat := List.range' 1000 K.length ++ List.range' 20000 K.length
def mapR (K : List Nat) : List (List AV) := keyRows K fun j => .ptr (20000 + j) 0 0
theorem lk_cl {K : List Nat} {j : Nat} (G : Nat → PrtL) (h : j < K.length) : lk (fams K G) (1000 + j) = some (clO (G (K.getD j 0))) := by
  unfold fams; rw [lk_app2, lk_famF_at h]
theorem lk_pt {K : List Nat} {j : Nat} (G : Nat → PrtL) (h : j < K.length) (hK : K.length ≤ 129) : lk (fams K G) (20000 + j) = some (ptO j (G (K.getD j 0))) := by
  unfold fams; rw [lk_app2, lk_famF, if_neg (by omega)]; exact lk_famF_at h
theorem lk_fams_lt {K : List Nat} (G : Nat → PrtL) {q : Nat} (h : q < 1000) : lk (fams K G) q = none := by
  unfold fams; rw [lk_app2, lk_famF, if_neg (by omega)]; simp only []; rw [lk_famF, if_neg (by omega)]
theorem lk_fams_gt {K : List Nat} (G : Nat → PrtL) {q : Nat} (hK : K.length ≤ 129) (h : 21000 ≤ q) : lk (fams K G) q = none := by
  unfold fams; rw [lk_app2, lk_famF, if_neg (by omega)]; simp only []; rw [lk_famF, if_neg (by omega)]
theorem fmI_cl {K : List Nat} {j : Nat} (h : j < K.length) : 1000 + j ∈ fmI K := by unfold fmI; simp; omega
theorem fmI_pt {K : List Nat} {j : Nat} (h : j < K.length) : 20000 + j ∈ fmI K := by unfold fmI; simp; omega
theorem fmI_lt {K : List Nat} {q : Nat} (h : q < 1000) : q ∉ fmI K := by unfold fmI; simp; omega
theorem fmI_gt {K : List Nat} {q : Nat} (hK : K.length ≤ 129) (h : 21000 ≤ q) : q ∉ fmI K := by unfold fmI; simp; omega
theorem idsLL_keyRows (K : List Nat) (b : Nat) : ∀ q ∈ idsLL (keyRows K fun j => .ptr (b + j) 0 0), b ≤ q ∧ q < b + K.length := by
  have key : ∀ (K : List Nat) (c : Nat), ∀ q ∈ idsLL (K.mapIdx (fun (j v : Nat) => [AV.v (.int .i64 (v : Int)), .ptr (c + j) 0 0])), c ≤ q ∧ q < c + K.length := by
    intro K
    induction K with
    | nil => intro c q hq; cases hq
    | cons a K ih =>
      intro c q hq
      simp only [List.mapIdx_cons, idsLL, idsL, AV.ids, List.nil_append, List.append_nil, List.mem_append, List.mem_singleton] at hq
      rcases hq with rfl | hq
      · simp
      · have := ih (c + 1) q (by simpa [Nat.add_assoc, Nat.add_comm 1] using hq)
        simp only [List.length_cons]; omega
  exact key K b
theorem ren_keyRows (ρ : Nat → Nat) (b : Nat) : ∀ (K : List Nat), (∀ j, j < K.length → ρ (b + j) = b + j) → renLL ρ (keyRows K fun j => .ptr (b + j) 0 0) = keyRows K fun j => .ptr (b + j) 0 0 := by
  intro K
  have key : ∀ (K : List Nat) (c : Nat), (∀ j, j < K.length → ρ (c + j) = c + j) → renLL ρ (K.mapIdx (fun (j v : Nat) => [AV.v (.int .i64 (v : Int)), .ptr (c + j) 0 0])) = K.mapIdx (fun (j v : Nat) => [AV.v (.int .i64 (v : Int)), .ptr (c + j) 0 0]) := by
    intro K
    induction K with
    | nil => intro c _; rfl
    | cons a K ih =>
      intro c h
      have h0 := h 0 (by simp)
      have := ih (c + 1) (fun j hj => by have := h (j + 1) (by simpa using hj); rw [show c + 1 + j = c + (j + 1) by omega]; exact this)
      simp only [List.mapIdx_cons, renLL, renL, AV.ren, h0]
      congr 1
      simpa [Nat.add_assoc, Nat.add_comm 1] using this
  exact key K b
def rho2 (a1 b1 a2 b2 : Nat) : Nat → Nat := fun q => if q = a1 then b1 else if q = a2 then b2 else q
theorem rho2_lt {a1 b1 a2 b2 q : Nat} (h1 : 1000 ≤ a1) (h2 : 1000 ≤ a2) (h : q < 1000) : rho2 a1 b1 a2 b2 q = q := by unfold rho2; rw [if_neg (by omega), if_neg (by omega)]
theorem ren_mapR {K : List Nat} {a1 b1 a2 b2 : Nat} (h1 : a1 < 20000) (h2 : a2 < 20000 ∨ 20000 + K.length ≤ a2) : renLL (rho2 a1 b1 a2 b2) (mapR K) = mapR K :=
  ren_keyRows _ 20000 K fun j hj => by unfold rho2; rw [if_neg (by omega), if_neg (by omega)]
theorem ren_mapR_snoc {K : List Nat} {v b1 b2 : Nat} (h : K.length ≤ 129) : renLL (rho2 (1000 + K.length) b1 (20000 + K.length) b2) (mapR (K ++ [v])) = mapR K ++ [[.v (.int .i64 (v : Int)), .ptr b2 0 0]] := by
  have e : ∀ xs ys : List (List AV), ∀ ρ, renLL ρ (xs ++ ys) = renLL ρ xs ++ renLL ρ ys := by
    intro xs ys ρ
    induction xs with
    | nil => simp [renLL]
    | cons x xs ih => simp only [List.cons_append, renLL, ih]
  unfold mapR
  rw [keyRows_snoc, e]
  have h1 := ren_mapR (K := K) (a1 := 1000 + K.length) (b1 := b1) (a2 := 20000 + K.length) (b2 := b2) (by omega) (.inr (Nat.le_refl _))
  unfold mapR at h1
  rw [h1]
  simp only [renLL, renL, AV.ren]
  rw [show rho2 (1000 + K.length) b1 (20000 + K.length) b2 (20000 + K.length) = b2 from by unfold rho2; rw [if_neg (by omega), if_pos rfl]]
theorem ids_mapR (K : List Nat) : ∀ q ∈ idsLL (mapR K), q ∈ fmI K := fun q hq => by
  have := idsLL_keyRows K 20000 q hq
  unfold fmI; simp; omega
theorem weak_fams {σ : AS} {n : Nat} {slots : List (Nat × AV)} {E : List (Nat × AObj)} {I K : List Nat} {G : Nat → PrtL} (a1 b1 a2 b2 : Nat) (hK : K.length ≤ 129) (ha1 : 1000 ≤ a1) (ha2 : 1000 ≤ a2) (hb1 : b1 < 1000) (hb2 : b2 < 1000) (hbb : b1 ≠ b2) (hn : n = σ.n)
    (hs : ∀ p ∈ slots, lk σ.slots p.1 = some (p.2.ren (rho2 a1 b1 a2 b2)) ∧ ∀ k ∈ p.2.ids, k ∈ I)
    (hE : ∀ p ∈ E, p.1 < 1000 ∧ p.1 ≠ b1 ∧ p.1 ≠ b2 ∧ lk σ.objs p.1 = some ⟨p.2.t, p.2.sz, renLL (rho2 a1 b1 a2 b2) p.2.xs⟩ ∧ p.1 ∈ I ∧ ∀ q ∈ idsLL p.2.xs, q ∈ I ∨ q ∈ fmI K)
    (hc : ∀ j, j < K.length → lk σ.objs (rho2 a1 b1 a2 b2 (1000 + j)) = some (clO (G (K.getD j 0))))
    (hp : ∀ j, j < K.length → lk σ.objs (rho2 a1 b1 a2 b2 (20000 + j)) = some ⟨44, 3, renLL (rho2 a1 b1 a2 b2) (ptO j (G (K.getD j 0))).xs⟩) : Weak σ ⟨n, slots, E ++ fams K G, I ++ fmI K⟩ := by
  have hpure : ∀ (ρ : Nat → Nat) (p : PrtL), renLL ρ (clO p).xs = (clO p).xs ∧ idsLL (clO p).xs = [] := fun ρ p => by
    have : idsLL (clO p).xs = [] := ids_ints _
    exact ⟨renLL_pure _ _ this, this⟩
  have hd : ∀ k, (k ∈ E.map (·.1) ∨ (1000 ≤ k ∧ k < 1000 + K.length) ∨ (20000 ≤ k ∧ k < 20000 + K.length)) → k ≠ b1 ∧ k ≠ b2 := fun k hk => by
    rcases hk with hk | hk | hk
    · obtain ⟨p, hp, rfl⟩ := List.mem_map.1 hk
      exact ⟨(hE p hp).2.1, (hE p hp).2.2.1⟩
    · omega
    · omega
  refine weak_fam2 (rho2 a1 b1 a2 b2) hn (fun p hp => ⟨(hs p hp).1, fun k hk => List.mem_append_left _ ((hs p hp).2 k hk)⟩) (fun p hp => ?_) (fun j hj => ?_) (fun j hj => ?_) (fun k k' hk hk' e => ?_)
  · obtain ⟨h1, _, _, h2, h3, h4⟩ := hE p hp
    rw [rho2_lt ha1 ha2 h1]
    exact ⟨h2, List.mem_append_left _ h3, fun q hq => by rcases h4 q hq with h | h; exact List.mem_append_left _ h; exact List.mem_append_right _ h⟩
  · refine ⟨by rw [hc j hj, (hpure _ _).1], List.mem_append_right _ (fmI_cl hj), fun q hq => ?_⟩
    rw [(hpure id _).2] at hq; cases hq
  · refine ⟨hp j hj, List.mem_append_right _ (fmI_pt hj), fun q hq => ?_⟩
    simp only [ptO, idsLL, idsL, AV.ids, List.nil_append, List.append_nil, List.mem_singleton] at hq
    subst hq
    exact List.mem_append_right _ (fmI_cl hj)
  · obtain ⟨h1, h2⟩ := hd k hk
    obtain ⟨h3, h4⟩ := hd k' hk'
    unfold rho2 at e
    split at e <;> split at e <;> (try split at e) <;> (try split at e) <;> omega
theorem rho2_id {a1 b1 a2 b2 q : Nat} (h1 : q ≠ a1) (h2 : q ≠ a2) : rho2 a1 b1 a2 b2 q = q := by unfold rho2; rw [if_neg h1, if_neg h2]
theorem rho2_1 {a1 b1 a2 b2 : Nat} : rho2 a1 b1 a2 b2 a1 = b1 := by unfold rho2; rw [if_pos rfl]
theorem rho2_2 {a1 b1 a2 b2 : Nat} (h : a2 ≠ a1) : rho2 a1 b1 a2 b2 a2 = b2 := by unfold rho2; rw [if_neg h, if_pos rfl]
theorem ren_pt (ρ : Nat → Nat) (j : Nat) (p : PrtL) : renLL ρ (ptO j p).xs = [[.v (.int .u64 ((lo p.1).toNat : Int)), .v (.int .u64 ((hi p.1).toNat : Int)), .ref (ρ (1000 + j)) 0 p.2.length]] := rfl
theorem ptO_eq (j : Nat) (p : PrtL) : ptO j p = ⟨44, 3, [[.v (.int .u64 ((lo p.1).toNat : Int)), .v (.int .u64 ((hi p.1).toNat : Int)), .ref (1000 + j) 0 p.2.length]]⟩ := rfl
theorem weak_same {σ : AS} {n : Nat} {slots : List (Nat × AV)} {E : List (Nat × AObj)} {I K : List Nat} {G : Nat → PrtL} (hK : K.length ≤ 129) (hn : n = σ.n)
    (hs : ∀ p ∈ slots, lk σ.slots p.1 = some (p.2.ren (rho2 15000 999 15000 998)) ∧ ∀ k ∈ p.2.ids, k ∈ I)
    (hE : ∀ p ∈ E, p.1 < 1000 ∧ p.1 ≠ 999 ∧ p.1 ≠ 998 ∧ lk σ.objs p.1 = some ⟨p.2.t, p.2.sz, renLL (rho2 15000 999 15000 998) p.2.xs⟩ ∧ p.1 ∈ I ∧ ∀ q ∈ idsLL p.2.xs, q ∈ I ∨ q ∈ fmI K)
    (hc : ∀ j, j < K.length → lk σ.objs (1000 + j) = some (clO (G (K.getD j 0))))
    (hp : ∀ j, j < K.length → lk σ.objs (20000 + j) = some (ptO j (G (K.getD j 0)))) : Weak σ ⟨n, slots, E ++ fams K G, I ++ fmI K⟩ := by
  refine weak_fams 15000 999 15000 998 hK (by omega) (by omega) (by omega) (by omega) (by omega) hn hs hE (fun j hj => ?_) (fun j hj => ?_)
  · rw [rho2_id (by omega) (by omega)]; exact hc j hj
  · rw [rho2_id (by omega) (by omega), ren_pt, rho2_id (by omega) (by omega), hp j hj]; rfl
theorem weak_upd {σ : AS} {n : Nat} {slots : List (Nat × AV)} {E : List (Nat × AObj)} {I K : List Nat} {G : Nat → PrtL} (j b : Nat) (hb : b < 998) (hj : j < K.length) (hK : K.length ≤ 129) (hn : n = σ.n)
    (hs : ∀ p ∈ slots, lk σ.slots p.1 = some (p.2.ren (rho2 (1000 + j) b 15000 998)) ∧ ∀ k ∈ p.2.ids, k ∈ I)
    (hE : ∀ p ∈ E, p.1 < 1000 ∧ p.1 ≠ b ∧ p.1 ≠ 998 ∧ lk σ.objs p.1 = some ⟨p.2.t, p.2.sz, renLL (rho2 (1000 + j) b 15000 998) p.2.xs⟩ ∧ p.1 ∈ I ∧ ∀ q ∈ idsLL p.2.xs, q ∈ I ∨ q ∈ fmI K)
    (hc : ∀ i, i < K.length → i ≠ j → lk σ.objs (1000 + i) = some (clO (G (K.getD i 0))))
    (hp : ∀ i, i < K.length → i ≠ j → lk σ.objs (20000 + i) = some (ptO i (G (K.getD i 0))))
    (h1 : lk σ.objs b = some (clO (G (K.getD j 0))))
    (h2 : lk σ.objs (20000 + j) = some ⟨44, 3, [[.v (.int .u64 ((lo (G (K.getD j 0)).1).toNat : Int)), .v (.int .u64 ((hi (G (K.getD j 0)).1).toNat : Int)), .ref b 0 (G (K.getD j 0)).2.length]]⟩) : Weak σ ⟨n, slots, E ++ fams K G, I ++ fmI K⟩ := by
  refine weak_fams (1000 + j) b 15000 998 hK (by omega) (by omega) (by omega) (by omega) (by omega) hn hs hE (fun i hx => ?_) (fun i hx => ?_)
  · by_cases e : i = j
    · subst e; rw [rho2_1]; exact h1
    · rw [rho2_id (by omega) (by omega)]; exact hc i hx e
  · rw [rho2_id (by omega) (by omega), ren_pt]
    by_cases e : i = j
    · subst e; rw [rho2_1]; exact h2
    · rw [rho2_id (by omega) (by omega), hp i hx e]; rfl
theorem getD_snoc {K : List Nat} {v j : Nat} (h : j < K.length) : (K ++ [v]).getD j 0 = K.getD j 0 := by simp [List.getD, List.getElem?_append_left (show j < K.length from h)]
theorem getD_snoc_at (K : List Nat) (v : Nat) : (K ++ [v]).getD K.length 0 = v := by simp [List.getD]
theorem weak_ext {σ : AS} {n : Nat} {slots : List (Nat × AV)} {E : List (Nat × AObj)} {I K : List Nat} {G : Nat → PrtL} (v b1 b2 : Nat) (hb1 : b1 < 1000) (hb2 : b2 < 1000) (hbb : b1 ≠ b2) (hK : K.length + 1 ≤ 129) (hG : G v = (0#128, [])) (hn : n = σ.n)
    (hs : ∀ p ∈ slots, lk σ.slots p.1 = some (p.2.ren (rho2 (1000 + K.length) b1 (20000 + K.length) b2)) ∧ ∀ k ∈ p.2.ids, k ∈ I)
    (hE : ∀ p ∈ E, p.1 < 1000 ∧ p.1 ≠ b1 ∧ p.1 ≠ b2 ∧ lk σ.objs p.1 = some ⟨p.2.t, p.2.sz, renLL (rho2 (1000 + K.length) b1 (20000 + K.length) b2) p.2.xs⟩ ∧ p.1 ∈ I ∧ ∀ q ∈ idsLL p.2.xs, q ∈ I ∨ q ∈ fmI (K ++ [v]))
    (hc : ∀ j, j < K.length → lk σ.objs (1000 + j) = some (clO (G (K.getD j 0))))
    (hp : ∀ j, j < K.length → lk σ.objs (20000 + j) = some (ptO j (G (K.getD j 0))))
    (h1 : lk σ.objs b1 = some ⟨3, 1, []⟩)
    (h2 : lk σ.objs b2 = some ⟨44, 3, [[.v (.int .u64 0), .v (.int .u64 0), .ref b1 0 0]]⟩) : Weak σ ⟨n, slots, E ++ fams (K ++ [v]) G, I ++ fmI (K ++ [v])⟩ := by
  have hl : (K ++ [v]).length = K.length + 1 := by simp
  refine weak_fams (1000 + K.length) b1 (20000 + K.length) b2 (by omega) (by omega) (by omega) hb1 hb2 hbb hn hs hE (fun i hx => ?_) (fun i hx => ?_)
  · by_cases e : i = K.length
    · subst e; rw [rho2_1, h1, getD_snoc_at, hG]; rfl
    · rw [rho2_id (by omega) (by omega), getD_snoc (by omega)]; exact hc i (by omega)
  · by_cases e : i = K.length
    · subst e
      rw [ren_pt, rho2_1, getD_snoc_at, hG, show rho2 (1000 + K.length) b1 (20000 + K.length) b2 (20000 + K.length) = b2 from by unfold rho2; rw [if_neg (by omega), if_pos rfl], h2]
      simp [show lo 0#128 = 0#64 from by decide, show hi 0#128 = 0#64 from by decide]
    · rw [rho2_id (by omega) (by omega), ren_pt, rho2_id (by omega) (by omega), getD_snoc (by omega), hp i (by omega)]; rfl
def famH (K : List Nat) (G : Nat → PrtL) (j : Nat) : List (Nat × AObj) := dl (dl (fams K G) (1000 + j)) (20000 + j)
def mapH (K : List Nat) (j : Nat) : List (List AV) := keyRows K fun i => if i = j then .ptr 63 0 0 else .ptr (20000 + i) 0 0
theorem renLL_keyRows (ρ : Nat → Nat) : ∀ (K : List Nat) (f : Nat → AV), renLL ρ (keyRows K f) = keyRows K fun i => (f i).ren ρ := by
  intro K
  induction K with
  | nil => intro f; rfl
  | cons a K ih =>
    intro f
    have := ih (fun i => f (i + 1))
    unfold keyRows at this ⊢
    simp only [List.mapIdx_cons, renLL, renL, AV.ren]
    congr 1
theorem idsLL_keyRowsF : ∀ (K : List Nat) (f : Nat → AV), ∀ q ∈ idsLL (keyRows K f), ∃ i, i < K.length ∧ q ∈ (f i).ids := by
  intro K
  induction K with
  | nil => intro f q hq; cases hq
  | cons a K ih =>
    intro f q hq
    have := ih (fun i => f (i + 1))
    unfold keyRows at this hq
    simp only [List.mapIdx_cons, idsLL, idsL, AV.ids, List.nil_append, List.append_nil, List.mem_append] at hq
    rcases hq with hq | hq
    · exact ⟨0, by simp, hq⟩
    · obtain ⟨i, h1, h2⟩ := this q hq
      exact ⟨i + 1, by simpa using h1, h2⟩
theorem keyRows_congr : ∀ (K : List Nat) (f g : Nat → AV), (∀ i, i < K.length → f i = g i) → keyRows K f = keyRows K g := by
  intro K
  induction K with
  | nil => intro f g _; rfl
  | cons a K ih =>
    intro f g h
    have h0 := h 0 (by simp)
    have := ih (fun i => f (i + 1)) (fun i => g (i + 1)) fun i hx => h (i + 1) (by simpa using hx)
    unfold keyRows at this ⊢
    simp only [List.mapIdx_cons, h0]
    congr 1
theorem mapH_open {K : List Nat} {j : Nat} {ρ : Nat → Nat} (h1 : ρ 63 = 20000 + j) (h2 : ∀ q, 1000 ≤ q → ρ q = q) : renLL ρ (mapH K j) = mapR K := by
  unfold mapH mapR
  rw [renLL_keyRows]
  refine keyRows_congr _ _ _ fun i hx => ?_
  by_cases e : i = j
  · subst e; simp [AV.ren, h1]
  · simp only [if_neg e, AV.ren, h2 (20000 + i) (by omega)]
theorem mapH_same {K : List Nat} {j : Nat} {ρ : Nat → Nat} (h1 : ρ 63 = 63) (h2 : ∀ q, 1000 ≤ q → ρ q = q) : renLL ρ (mapH K j) = mapH K j := by
  unfold mapH
  rw [renLL_keyRows]
  refine keyRows_congr _ _ _ fun i hx => ?_
  by_cases e : i = j
  · subst e; simp [AV.ren, h1]
  · simp only [if_neg e, AV.ren, h2 (20000 + i) (by omega)]
theorem mapH_close {K : List Nat} {j a : Nat} (hj : j < 129) : renLL (rho2 (1000 + j) a (20000 + j) 63) (mapR K) = mapH K j := by
  unfold mapH mapR
  rw [renLL_keyRows]
  refine keyRows_congr _ _ _ fun i hx => ?_
  by_cases e : i = j
  · subst e; rw [if_pos rfl]; unfold AV.ren rho2; rw [if_neg (by omega), if_pos rfl]
  · simp only [if_neg e, AV.ren, rho2]; rw [if_neg (by omega), if_neg (by omega)]
theorem ids_mapH (K : List Nat) (j : Nat) : ∀ q ∈ idsLL (mapH K j), q = 63 ∨ q ∈ fmI K := fun q hq => by
  obtain ⟨i, h1, h2⟩ := idsLL_keyRowsF _ _ q hq
  split at h2
  · simp [AV.ids] at h2; exact .inl h2
  · simp [AV.ids] at h2; subst h2; exact .inr (fmI_pt h1)
theorem lk_famH {K : List Nat} {G : Nat → PrtL} {j k : Nat} {ob : AObj} (hK : K.length ≤ 129) (h : lk (famH K G j) k = some ob) : (∃ i, i < K.length ∧ i ≠ j ∧ k = 1000 + i ∧ ob = clO (G (K.getD i 0))) ∨ (∃ i, i < K.length ∧ i ≠ j ∧ k = 20000 + i ∧ ob = ptO i (G (K.getD i 0))) := by
  unfold famH at h
  rw [lk_dl, lk_dl] at h
  split at h
  · cases h
  · split at h
    · cases h
    · rename_i h1 h2
      unfold fams at h
      rw [lk_app2, lk_famF] at h
      split at h
      · rename_i x hx
        split at hx
        · rename_i hc; cases hx; cases h; exact .inl ⟨k - 1000, by omega, by omega, by omega, rfl⟩
        · cases hx
      · rw [lk_famF] at h
        split at h
        · rename_i hc; cases h; exact .inr ⟨k - 20000, by omega, by omega, by omega, rfl⟩
        · cases h
theorem lk_famH_lt {K : List Nat} {G : Nat → PrtL} {j q : Nat} (h : q < 1000) : lk (famH K G j) q = none := by
  unfold famH; rw [lk_dl, lk_dl, if_neg (by omega), if_neg (by omega), lk_fams_lt G h]
theorem lk_famH_cl {K : List Nat} {i j : Nat} (G : Nat → PrtL) (h : i < K.length) (hK : K.length ≤ 129) (hne : i ≠ j) : lk (famH K G j) (1000 + i) = some (clO (G (K.getD i 0))) := by
  unfold famH; rw [lk_dl, lk_dl, if_neg (by omega), if_neg (by omega), lk_cl G h]
theorem lk_famH_pt {K : List Nat} {i j : Nat} (G : Nat → PrtL) (h : i < K.length) (hj : j < K.length) (hK : K.length ≤ 129) (hne : i ≠ j) : lk (famH K G j) (20000 + i) = some (ptO i (G (K.getD i 0))) := by
  unfold famH; rw [lk_dl, lk_dl, if_neg (by omega), if_neg (by omega), lk_pt G h hK]
theorem weak_H {σ : AS} {n : Nat} {slots : List (Nat × AV)} {E : List (Nat × AObj)} {I K : List Nat} {G : Nat → PrtL} {j : Nat} (ρ : Nat → Nat) (hρ : ∀ q, 1000 ≤ q → ρ q = q) (hK : K.length ≤ 129) (hn : n = σ.n)
    (hs : ∀ p ∈ slots, lk σ.slots p.1 = some (p.2.ren ρ) ∧ ∀ k ∈ p.2.ids, k ∈ I)
    (hE : ∀ p ∈ E, p.1 < 1000 ∧ (ρ p.1 < 1000 ∨ ρ p.1 = 1000 + j ∨ ρ p.1 = 20000 + j) ∧ lk σ.objs (ρ p.1) = some ⟨p.2.t, p.2.sz, renLL ρ p.2.xs⟩ ∧ p.1 ∈ I ∧ ∀ q ∈ idsLL p.2.xs, q ∈ I ∨ q ∈ fmI K)
    (hinj : ∀ p ∈ E, ∀ q ∈ E, ρ p.1 = ρ q.1 → p.1 = q.1) (hj : j < K.length)
    (hc : ∀ i, i < K.length → i ≠ j → lk σ.objs (1000 + i) = some (clO (G (K.getD i 0))))
    (hp : ∀ i, i < K.length → i ≠ j → lk σ.objs (20000 + i) = some (ptO i (G (K.getD i 0)))) : Weak σ ⟨n, slots, E ++ famH K G j, I ++ fmI K⟩ := by
  have key : ∀ k ob, lk (E ++ famH K G j) k = some ob → (k, ob) ∈ E ∨ lk (famH K G j) k = some ob := fun k ob h => by
    rw [lk_app2] at h
    cases he : lk E k with
    | some x => rw [he] at h; cases h; exact .inl (lk_mem2 he)
    | none => rw [he] at h; exact .inr h
  have far : ∀ k ob, lk (famH K G j) k = some ob → 1000 ≤ k ∧ k ≠ 1000 + j ∧ k ≠ 20000 + j := fun k ob h => by
    rcases lk_famH hK h with ⟨i, h1, h2, rfl, _⟩ | ⟨i, h1, h2, rfl, _⟩ <;> omega
  refine ⟨hn, ρ, fun t av ht => ?_, fun k ob hk => ?_, fun k ob k' ob' hk hk' e => ?_, fun k hk => by cases hk⟩
  · have hm : ∀ {l : List (Nat × AV)}, lk l t = some av → (t, av) ∈ l := by
      intro l
      induction l with
      | nil => intro h; cases h
      | cons p l ih =>
        obtain ⟨e, x⟩ := p
        intro h
        simp only [lk] at h
        split at h
        · rename_i he; cases h; subst he; exact List.mem_cons_self
        · exact List.mem_cons_of_mem _ (ih h)
    obtain ⟨h1, h2⟩ := hs _ (hm ht)
    exact ⟨h1, fun k hk => List.mem_append_left _ (h2 k hk)⟩
  · rcases key k ob hk with h | h
    · obtain ⟨_, _, h2, h3, h4⟩ := hE _ h
      exact ⟨h2, List.mem_append_left _ h3, fun q hq => by rcases h4 q hq with h | h; exact List.mem_append_left _ h; exact List.mem_append_right _ h⟩
    · rw [hρ k (far k ob h).1]
      rcases lk_famH hK h with ⟨i, h1, h2, rfl, rfl⟩ | ⟨i, h1, h2, rfl, rfl⟩
      · have e : idsLL (clO (G (K.getD i 0))).xs = [] := ids_ints _
        refine ⟨by rw [renLL_pure _ _ e]; exact hc i h1 h2, List.mem_append_right _ (fmI_cl h1), fun q hq => by rw [e] at hq; cases hq⟩
      · refine ⟨by rw [ren_pt, hρ _ (by omega)]; exact hp i h1 h2, List.mem_append_right _ (fmI_pt h1), fun q hq => ?_⟩
        simp only [ptO, idsLL, idsL, AV.ids, List.nil_append, List.append_nil, List.mem_singleton] at hq
        subst hq
        exact List.mem_append_right _ (fmI_cl h1)
  · rcases key k ob hk with h | h <;> rcases key k' ob' hk' with h' | h'
    · exact hinj _ h _ h' e
    · have h1 := (hE _ h).2.1
      have h2 := far k' ob' h'
      rw [hρ k' h2.1] at e
      dsimp only at h1
      omega
    · have h1 := (hE _ h').2.1
      have h2 := far k ob h
      rw [hρ k h2.1] at e
      dsimp only at h1
      omega
    · rw [hρ k (far k ob h).1, hρ k' (far k' ob' h').1] at e; exact e
def famP (K : List Nat) (G : Nat → PrtL) : List (Nat × AObj) := famF 20000 K.length fun j => ⟨44, 3, [partRow (G (K.getD j 0))]⟩
def clD : Nat → Bool := fun q => decide (1000 ≤ q ∧ q < 2000)
theorem clD_lt {q : Nat} (h : q < 1000) : clD q = false := by unfold clD; simp; omega
theorem frz_lk (σ : AS) (D : Nat → Bool) (k : Nat) : lk (σ.frz D).objs k = if D k = true then none else (lk σ.objs k).map (frzO σ D) := by
  unfold AS.frz
  rw [lk_map, lk_filter]
  split <;> rfl
theorem frzO_pure {σ : AS} {D : Nat → Bool} {ob : AObj} (h : idsLL ob.xs = []) : frzO σ D ob = ob := if_pos h
theorem frz_ptO {σ : AS} {D : Nat → Bool} {j : Nat} {p : PrtL} (h : lk σ.objs (1000 + j) = some (clO p)) (hD : D (1000 + j) = true) : frzO σ D (ptO j p) = ⟨44, 3, [partRow p]⟩ := by
  have e : idsLL (p.2.map fun x => [AV.v (.int .i64 x)]) = [] := ids_ints p.2
  have hs : σ.shut1 D (.ref (1000 + j) 0 p.2.length) = some (aInts p.2) := by
    simp only [AS.shut1, h, clO]
    rw [if_pos ⟨hD, by decide, by simp, by rw [List.drop_zero, List.take_of_length_le (by simp)]; exact e⟩, List.drop_zero, List.take_of_length_le (by simp)]
    rfl
  unfold frzO
  rw [if_neg (by simp [ptO, idsLL, idsL, AV.ids])]
  simp only [ptO, List.map_cons, List.map_nil, frzC, hs, partRow]
  rfl
theorem map_keyRows (g : AV → AV) (hg : ∀ v, g (.v v) = .v v) : ∀ (K : List Nat) (f : Nat → AV), (keyRows K f).map (fun r => r.map g) = keyRows K fun i => g (f i) := by
  intro K
  induction K with
  | nil => intro f; rfl
  | cons a K ih =>
    intro f
    have := ih (fun i => f (i + 1))
    unfold keyRows at this ⊢
    simp only [List.mapIdx_cons, List.map_cons, List.map_nil, hg]
    congr 1
theorem frz_mapR (σ : AS) (D : Nat → Bool) (t sz : Nat) (K : List Nat) : frzO σ D ⟨t, sz, mapR K⟩ = ⟨t, sz, mapR K⟩ := by
  unfold frzO
  split
  · rfl
  · unfold mapR
    rw [map_keyRows _ (fun v => rfl)]
    rfl
theorem lk_famP {K : List Nat} {j : Nat} (G : Nat → PrtL) (h : j < K.length) : lk (famP K G) (20000 + j) = some ⟨44, 3, [partRow (G (K.getD j 0))]⟩ := lk_famF_at h
theorem lk_famP_lt {K : List Nat} (G : Nat → PrtL) {q : Nat} (h : q < 1000) : lk (famP K G) q = none := by unfold famP; rw [lk_famF, if_neg (by omega)]
theorem famP_mem {K : List Nat} {G : Nat → PrtL} {p : Nat × AObj} (h : p ∈ famP K G) : ∃ j, j < K.length ∧ p = (20000 + j, ⟨44, 3, [partRow (G (K.getD j 0))]⟩) := by
  unfold famP famF at h
  obtain ⟨j, hj, rfl⟩ := List.mem_map.1 h
  exact ⟨j, List.mem_range.1 hj, rfl⟩
theorem ids_prow (p : PrtL) : idsLL [partRow p] = [] := by
  have e : (aInts p.2).ids = [] := ids_ints p.2
  simp only [idsLL, partRow, idsL, AV.ids, e]; rfl
theorem weak_frz {σ : AS} {n : Nat} {slots : List (Nat × AV)} {E : List (Nat × AObj)} {I K : List Nat} {G : Nat → PrtL} (hK : K.length ≤ 129) (hn : n = σ.n)
    (hs : ∀ p ∈ slots, (lk σ.slots p.1).map (frzV σ clD) = some p.2 ∧ ∀ k ∈ p.2.ids, k ∈ I)
    (hE : ∀ p ∈ E, p.1 < 1000 ∧ (lk σ.objs p.1).map (frzO σ clD) = some p.2 ∧ p.1 ∈ I ∧ ∀ q ∈ idsLL p.2.xs, q ∈ I ∨ q ∈ fmI K)
    (hc : ∀ j, j < K.length → lk σ.objs (1000 + j) = some (clO (G (K.getD j 0))))
    (hp : ∀ j, j < K.length → lk σ.objs (20000 + j) = some (ptO j (G (K.getD j 0)))) : Weak (σ.frz clD) ⟨n, slots, E ++ famP K G, I ++ fmI K⟩ := by
  refine weak_id hn (fun p hx => ?_) (fun p hx => ?_)
  · obtain ⟨h1, h2⟩ := hs p hx
    refine ⟨?_, fun k hk => List.mem_append_left _ (h2 k hk)⟩
    show lk (σ.slots.map fun p => (p.1, frzV σ clD p.2)) p.1 = _
    rw [lk_map]; exact h1
  · rcases List.mem_append.1 hx with hx | hx
    · obtain ⟨h1, h2, h3, h4⟩ := hE p hx
      refine ⟨?_, List.mem_append_left _ h3, fun q hq => by rcases h4 q hq with h | h; exact List.mem_append_left _ h; exact List.mem_append_right _ h⟩
      rw [frz_lk, clD_lt h1]; exact h2
    · obtain ⟨j, hj, rfl⟩ := famP_mem hx
      refine ⟨?_, List.mem_append_right _ (fmI_pt hj), fun q hq => by rw [ids_prow] at hq; cases hq⟩
      show lk (σ.frz clD).objs (20000 + j) = _
      rw [frz_lk, show clD (20000 + j) = false from by unfold clD; simp; omega, hp j hj, if_neg (by simp), Option.map_some, frz_ptO (hc j hj) (by unfold clD; simp; omega)]
theorem frz_clo (σ : AS) (D : Nat → Bool) (t sz f a b : Nat) : frzO σ D ⟨t, sz, [[.clo f [.ptr a 0 0, .ptr b 0 0]]]⟩ = ⟨t, sz, [[.clo f [.ptr a 0 0, .ptr b 0 0]]]⟩ := by
  unfold frzO
  rw [if_neg (by simp [idsLL, idsL, AV.ids])]
  rfl
theorem weak_P {σ : AS} {n : Nat} {slots : List (Nat × AV)} {E : List (Nat × AObj)} {I K : List Nat} {G : Nat → PrtL} (ρ : Nat → Nat) (hρ : ∀ q, 1000 ≤ q → ρ q = q) (hK : K.length ≤ 129) (hn : n = σ.n)
    (hs : ∀ p ∈ slots, lk σ.slots p.1 = some (p.2.ren ρ) ∧ ∀ k ∈ p.2.ids, k ∈ I)
    (hE : ∀ p ∈ E, p.1 < 1000 ∧ ρ p.1 < 1000 ∧ lk σ.objs (ρ p.1) = some ⟨p.2.t, p.2.sz, renLL ρ p.2.xs⟩ ∧ p.1 ∈ I ∧ ∀ q ∈ idsLL p.2.xs, q ∈ I ∨ q ∈ fmI K)
    (hinj : ∀ p ∈ E, ∀ q ∈ E, ρ p.1 = ρ q.1 → p.1 = q.1)
    (hp : ∀ i, i < K.length → lk σ.objs (20000 + i) = some ⟨44, 3, [partRow (G (K.getD i 0))]⟩) : Weak σ ⟨n, slots, E ++ famP K G, I ++ fmI K⟩ := by
  have key : ∀ k ob, lk (E ++ famP K G) k = some ob → (k, ob) ∈ E ∨ (k, ob) ∈ famP K G := fun k ob h => by
    rw [lk_app2] at h
    cases he : lk E k with
    | some x => rw [he] at h; cases h; exact .inl (lk_mem2 he)
    | none => rw [he] at h; exact .inr (lk_mem2 h)
  have far : ∀ k ob, (k, ob) ∈ famP K G → 1000 ≤ k := fun k ob h => by
    obtain ⟨j, h1, h2⟩ := famP_mem h
    cases h2; omega
  refine ⟨hn, ρ, fun t av ht => ?_, fun k ob hk => ?_, fun k ob k' ob' hk hk' e => ?_, fun k hk => by cases hk⟩
  · have hm : ∀ {l : List (Nat × AV)}, lk l t = some av → (t, av) ∈ l := by
      intro l
      induction l with
      | nil => intro h; cases h
      | cons p l ih =>
        obtain ⟨e, x⟩ := p
        intro h
        simp only [lk] at h
        split at h
        · rename_i he; cases h; subst he; exact List.mem_cons_self
        · exact List.mem_cons_of_mem _ (ih h)
    obtain ⟨h1, h2⟩ := hs _ (hm ht)
    exact ⟨h1, fun k hk => List.mem_append_left _ (h2 k hk)⟩
  · rcases key k ob hk with h | h
    · obtain ⟨_, _, h2, h3, h4⟩ := hE _ h
      exact ⟨h2, List.mem_append_left _ h3, fun q hq => by rcases h4 q hq with h | h; exact List.mem_append_left _ h; exact List.mem_append_right _ h⟩
    · obtain ⟨j, h1, h2⟩ := famP_mem h
      cases h2
      refine ⟨?_, List.mem_append_right _ (fmI_pt h1), fun q hq => by rw [ids_prow] at hq; cases hq⟩
      rw [hρ _ (by omega), hp j h1, renLL_pure _ _ (ids_prow _)]
  · rcases key k ob hk with h | h <;> rcases key k' ob' hk' with h' | h'
    · exact hinj _ h _ h' e
    · have h1 := (hE _ h).2.1
      have h2 := far k' ob' h'
      rw [hρ k' h2] at e
      dsimp only at h1
      omega
    · have h1 := (hE _ h').2.1
      have h2 := far k ob h
      rw [hρ k h2] at e
      dsimp only at h1
      omega
    · rw [hρ k (far k ob h), hρ k' (far k' ob' h')] at e; exact e
def finL (K : List Nat) (G : Nat → PrtL) (v : Nat) : List PrtL := (List.range v).filterMap fun w => if w ∈ K then some (G w) else none
theorem finL_yes {K : List Nat} {v : Nat} (G : Nat → PrtL) (h : v ∈ K) : finL K G (v + 1) = finL K G v ++ [G v] := by unfold finL; rw [List.range_succ, List.filterMap_append]; simp [h]
theorem finL_no {K : List Nat} {v : Nat} (G : Nat → PrtL) (h : v ∉ K) : finL K G (v + 1) = finL K G v := by unfold finL; rw [List.range_succ, List.filterMap_append]; simp [h]
theorem finL_len (K : List Nat) (G : Nat → PrtL) : ∀ v, (finL K G v).length ≤ v
  | 0 => Nat.le_refl _
  | v + 1 => by
    have ih := finL_len K G v
    by_cases h : v ∈ K
    · rw [finL_yes G h]; simp; omega
    · rw [finL_no G h]; omega
theorem ids_mapR2 (K : List Nat) (I : List Nat) : ∀ q ∈ idsLL (mapR K), q ∈ I ∨ q ∈ fmI K := fun q hq => .inr (ids_mapR K q hq)
theorem frz_sl (σ : AS) (D : Nat → Bool) (k : Nat) : lk (σ.frz D).slots k = (lk σ.slots k).map (frzV σ D) := by
  unfold AS.frz
  rw [lk_map]
def splitS (N : Int) (L : List (List Int)) (xs : List Int) : List Nat × (Nat → PrtL) := kState (pState N L xs L.length).r L xs (pState N L xs L.length).first (pState N L xs L.length).first.length
def splitP (N : Int) (L : List (List Int)) (xs : List Int) : List PrtL := (pState N L xs L.length).out ++ finL (splitS N L xs).1 (splitS N L xs).2 (N + 1).toNat
def splitF (N : Int) (L : List (List Int)) (xs : List Int) : BitVec 128 := (pState N L xs L.length).free
end Go.Proofs.Ytekeidhndlnghaa
