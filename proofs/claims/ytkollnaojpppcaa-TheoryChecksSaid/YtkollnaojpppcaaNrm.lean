/- Sorting clauses in place, on the abstract machine; no condition. -/
import Derived.Test.YtkollnaojpppcaaCmp
import Derived.Test.YtkollnaojpppcaaSort
namespace Go.Proofs.Ytkollnaojpppcaa
open Go.RowKit Go.Shelf Go.Sort

def clLe (c d : List Int) : Bool := !decide (cmpC d c < 0)
/-- Clauses in order. -/
def sortRows (L : List (List Int)) : List (List Int) := L.mergeSort clLe
theorem sortRows_perm (L : List (List Int)) : (sortRows L).Perm L := List.mergeSort_perm _ _
theorem clLe_trans {a b c : List Int} (ha : Lits a) (hb : Lits b) (hc : Lits c) (h1 : clLe a b = true) (h2 : clLe b c = true) : clLe a c = true := by
  simp only [clLe, Bool.not_eq_true', decide_eq_false_iff_not, Int.not_lt] at *
  have k1 := (cmpC_anti hb ha)
  have k2 := (cmpC_anti hc hb)
  have k3 := (cmpC_anti hc ha)
  refine Int.not_lt.1 fun h => ?_
  -- c < a; b ≤ c .. b ≤ a
  have h3 : cmpC b a < 0 ∨ cmpC b a = 0 ∨ 0 < cmpC b a := by omega
  rcases h3 with h3 | h3 | h3
  · omega
  · have := k1.1 h3; subst this
    omega
  · have h4 : cmpC a b < 0 := (cmpC_anti ha hb).2.2 h3
    have h5 := cmpC_trans hc ha hb h h4
    omega
theorem clLe_total {a b : List Int} (ha : Lits a) (hb : Lits b) : clLe a b = true ∨ clLe b a = true := by
  have h2 := (cmpC_anti hb ha).2
  by_cases h : cmpC b a < 0
  · right
    have : ¬ cmpC a b < 0 := by have := h2.1 h; omega
    simp [clLe, this]
  · left
    simp [clLe, h]
theorem clLe_anti {a b : List Int} (ha : Lits a) (hb : Lits b) (h1 : clLe a b = true) (h2 : clLe b a = true) : a = b := by
  simp only [clLe, Bool.not_eq_true', decide_eq_false_iff_not, Int.not_lt] at *
  have k := cmpC_anti ha hb
  have k2 := (cmpC_anti hb ha).2
  exact k.1 (by omega)

/-- A sorted list of clauses is sorted. -/
theorem pairwise_mergeSort_of {L : List (List Int)} (h : ∀ c ∈ L, Lits c) : List.Pairwise (fun a b => clLe a b = true) (L.mergeSort clLe) := by
  obtain ⟨M, rfl⟩ : ∃ M : List {c : List Int // Lits c}, M.map Subtype.val = L := by
    induction L with
    | nil => exact ⟨[], rfl⟩
    | cons c r ih =>
      obtain ⟨M, hM⟩ := ih (fun c hc => h c (by simp [hc]))
      exact ⟨⟨c, h c (by simp)⟩ :: M, by simp [hM]⟩
  have h1 := List.pairwise_mergeSort (le := fun a b : {c : List Int // Lits c} => clLe a.1 b.1) (fun a b c h1 h2 => clLe_trans a.2 b.2 c.2 h1 h2) (fun a b => by
    have := clLe_total a.2 b.2
    simpa using this) M
  rw [← List.map_mergeSort (r := fun a b : {c : List Int // Lits c} => clLe a.1 b.1) (s := clLe) (fun a _ b _ => rfl), List.pairwise_map]
  exact h1

def sortR_ren : Go.Shelf.Ren := ⟨fun | 6 => 39 | 15 => 65 | 14 => 64 | 28 => 88 | 29 => 89 | 20 => 80 | 21 => 81 | 22 => 82 | 23 => 83 | 24 => 84 | 25 => 85 | 26 => 86 | 27 => 87 | 46 => 93 | 47 => 94 | 48 => 95 | 49 => 96 | 50 => 97 | 57 => 106 | n => n, fun | 22 => 22 | 24 => 38 | 25 => 59 | 3 => 3 | 39 => 43 | 0 => 0 | 53 => 100 | 55 => 34 | 4 => 4 | 46 => 93 | 45 => 92 | 50 => 97 | 5 => 5 | 9 => 9 | 66 => 104 | 70 => 108 | 76 => 115 | 77 => 116 | n => n, fun | n => n⟩
theorem sortR : Go.Proofs.SlLaysF.n6 Try.prog sortR_ren := {
  mixed := by kernel_rfl,
  f6 := ⟨Try.f39.name, by decide, Try.func39.trans (congrArg some (by kernel_rfl))⟩,
  f14 := ⟨Try.f64.name, by decide, Try.func64.trans (congrArg some (by kernel_rfl))⟩,
  f15 := Try.func65.trans (congrArg some (by kernel_rfl)),
  f20 := ⟨Try.f80.name, by decide, Try.func80.trans (congrArg some (by kernel_rfl))⟩,
  f21 := ⟨Try.f81.name, by decide, Try.func81.trans (congrArg some (by kernel_rfl))⟩,
  f22 := ⟨Try.f82.name, by decide, Try.func82.trans (congrArg some (by kernel_rfl))⟩,
  f23 := ⟨Try.f83.name, by decide, Try.func83.trans (congrArg some (by kernel_rfl))⟩,
  f24 := ⟨Try.f84.name, by decide, Try.func84.trans (congrArg some (by kernel_rfl))⟩,
  f25 := ⟨Try.f85.name, by decide, Try.func85.trans (congrArg some (by kernel_rfl))⟩,
  f26 := ⟨Try.f86.name, by decide, Try.func86.trans (congrArg some (by kernel_rfl))⟩,
  f27 := ⟨Try.f87.name, by decide, Try.func87.trans (congrArg some (by kernel_rfl))⟩,
  f28 := Try.func88.trans (congrArg some (by kernel_rfl)),
  f29 := Try.func89.trans (congrArg some (by kernel_rfl)),
  f46 := ⟨Try.f93.name, by decide, Try.func93.trans (congrArg some (by kernel_rfl))⟩,
  f47 := Try.func94.trans (congrArg some (by kernel_rfl)),
  f48 := Try.func95.trans (congrArg some (by kernel_rfl)),
  f49 := ⟨Try.f96.name, by decide, Try.func96.trans (congrArg some (by kernel_rfl))⟩,
  f50 := ⟨Try.f97.name, by decide, Try.func97.trans (congrArg some (by kernel_rfl))⟩,
  f57 := ⟨Try.f106.name, by decide, Try.func106.trans (congrArg some (by kernel_rfl))⟩,
  t0 := Try.underlying0,
  a0 := Try.isAgg0,
  z0 := Try.sizeOf0,
  v0 := Try.zeroValue0,
  t3 := Try.underlying3,
  a3 := Try.isAgg3,
  z3 := Try.sizeOf3,
  v3 := Try.zeroValue3,
  t4 := Try.underlying4,
  a4 := Try.isAgg4,
  z4 := Try.sizeOf4,
  v4 := Try.zeroValue4,
  t5 := Try.underlying5,
  a5 := Try.isAgg5,
  z5 := Try.sizeOf5,
  v5 := Try.zeroValue5,
  t9 := Try.underlying9,
  a9 := Try.isAgg9,
  z9 := Try.sizeOf9,
  v9 := Try.zeroValue9,
  t22 := Try.underlying22,
  a22 := Try.isAgg22,
  z22 := Try.sizeOf22,
  v22 := Try.zeroValue22,
  a24 := Try.isAgg38,
  z24 := Try.sizeOf38,
  t25 := Try.underlying59,
  a25 := Try.isAgg59,
  z25 := Try.sizeOf59,
  v25 := Try.zeroValue59,
  t39 := Try.underlying43,
  a39 := Try.isAgg43,
  z39 := Try.sizeOf43,
  v39 := Try.zeroValue43,
  t45 := Try.underlying92,
  a45 := Try.isAgg92,
  z45 := Try.sizeOf92,
  v45 := Try.zeroValue92,
  t46 := Try.underlying93,
  a46 := Try.isAgg93,
  z46 := Try.sizeOf93,
  v46 := Try.zeroValue93,
  t50 := Try.underlying97,
  a50 := Try.isAgg97,
  z50 := Try.sizeOf97,
  v50 := Try.zeroValue97,
  t53 := Try.underlying100,
  a53 := Try.isAgg100,
  z53 := Try.sizeOf100,
  v53 := Try.zeroValue100,
  t55 := Try.underlying34,
  a55 := Try.isAgg34,
  z55 := Try.sizeOf34,
  v55 := Try.zeroValue34,
  t66 := Try.underlying104,
  a66 := Try.isAgg104,
  z66 := Try.sizeOf104,
  v66 := Try.zeroValue104,
  t70 := Try.underlying108,
  a70 := Try.isAgg108,
  z70 := Try.sizeOf108,
  v70 := Try.zeroValue108,
  t76 := Try.underlying115,
  a76 := Try.isAgg115,
  z76 := Try.sizeOf115,
  v76 := Try.zeroValue115,
  t77 := Try.underlying116,
  a77 := Try.isAgg116,
  z77 := Try.sizeOf116,
  v77 := Try.zeroValue116 }


/-- A clause with its value. -/
abbrev RowV (S : Nat → Nat → Option Value) := { p : Value × List Int // Rv (G0 S) (aInts p.2) p.1 ∧ p.1.oneCell' = true ∧ okInts p.2 = true ∧ Lits p.2 }
instance (S : Nat → Nat → Option Value) : Inhabited (RowV S) := ⟨⟨(.slice none 0 0, []), rv_nil 1, rfl, rfl, fun x hx => by cases hx⟩⟩
def encR {S : Nat → Nat → Option Value} (x : RowV S) : Value := x.1.1
def cmpR {S : Nat → Nat → Option Value} (x y : RowV S) : Int := cmpC x.1.2 y.1.2
theorem swoR {S : Nat → Nat → Option Value} : SWO (ltOf (cmpR (S := S))) where
  irrefl x := by show decide (cmpC _ _ < 0) = false; rw [cmpC_self]; rfl
  trans x y z h1 h2 := by
    have k1 : cmpC x.1.2 y.1.2 < 0 := of_decide_eq_true h1
    have k2 : cmpC y.1.2 z.1.2 < 0 := of_decide_eq_true h2
    exact decide_eq_true (cmpC_trans x.2.2.2.2 y.2.2.2.2 z.2.2.2.2 k1 k2)
  ntrans x y z h1 h2 := by
    have h3 := clLe_trans (a := z.1.2) (b := y.1.2) (c := x.1.2) z.2.2.2.2 y.2.2.2.2 x.2.2.2.2 (by
      show (!decide (cmpC y.1.2 z.1.2 < 0)) = true
      have : decide (cmpC y.1.2 z.1.2 < 0) = false := h2
      rw [this]; rfl) (by
      show (!decide (cmpC x.1.2 y.1.2 < 0)) = true
      have : decide (cmpC x.1.2 y.1.2 < 0) = false := h1
      rw [this]; rfl)
    have h4 : (!decide (cmpC x.1.2 z.1.2 < 0)) = true := h3
    show decide (cmpC x.1.2 z.1.2 < 0) = false
    simpa using h4
/-- SortFunc over clauses whose cells stay. -/
theorem sortRows_c {S : Nat → Nat → Option Value} {w : World} (hS : StOk S w) {b base cap : Nat} (hsep : ∀ p, S b p = none) (hb : b < w.heap.size) (d : Array (RowV S)) (hd : Holds encR w b base d) (hsz : d.size < 4611686018427387904) :
    Calls Try.prog 39 #[.slice (some ⟨b, base, none⟩) d.size cap, .func (.func 40) #[] #[]] w fun e w' =>
      e = .returned (.tuple #[]) ∧ ∃ (d' : Array (RowV S)) (q : Nat) (os : Array Obj), d'.size = d.size ∧ d'.toList.map (fun x => x.1.2) = sortRows (d.toList.map fun x => x.1.2) ∧ w' = sortWorld encR w b base q d' os := by
  have eg : ∀ args w, (callFunc 40 args).run Try.prog w = .ok (.enter 40 args) w := enters_fn Try.func40 (by kernel_rfl) rfl
  have hcmp : CmpReads Try.prog 40 #[] (encR (S := S)) cmpR b base d.size w := fun m os dk _ x y => by
    have hst : StOk S (sortWorld encR w b base m dk os) := fun b' o u h => by
      have h1 := hS b' o u h
      have hne : b' ≠ b := fun e => by subst e; rw [hsep] at h; cases h
      have hlt := World.block_lt_of_cell? _ _ h1
      have : (sortWorld encR w b base m dk os).heap[b']? = w.heap[b']? := by
        show ((putRow encR (Sort.ahead w m) b base dk).heap ++ os)[b']? = _
        rw [Array.getElem?_append_left (by simpa [putRow, mapBlock, Sort.ahead] using hlt)]
        simp [putRow, mapBlock, Sort.ahead, Array.getElem?_modify, Ne.symm hne]
      rw [← h1]; unfold World.cell?; simp only [this]
    exact normalFn_c (ints_of hst x.2.1 (toInts_ints _) x.2.2.2.1) (ints_of hst y.2.1 (toInts_ints _) y.2.2.2.1)
  have hT := Any.slices_SortFunc sortR (encR (S := S)) (fun x => x.2.2.1) cmpR swoR 40 #[] b base cap d w eg (CmpReads.lays hcmp) hd hb hsz
  change Calls Try.prog 39 _ _ _ at hT
  refine hT.mono fun e w' ⟨he, d', q, os, hp, hs, hw⟩ => ⟨he, d', q, os, hp.1, ?_, hw⟩
  obtain ⟨hsz', _, hperm⟩ := hp
  have e1 : d'.extract 0 d.size = d' := by rw [← hsz']; exact Array.extract_size
  rw [e1, Array.extract_size] at hperm
  have hlits : ∀ c ∈ d.toList.map (fun x : RowV S => x.1.2), Lits c := fun c hc => by
    obtain ⟨x, _, rfl⟩ := List.mem_map.1 hc; exact x.2.2.2.2
  have hperm2 : (d'.toList.map fun x : RowV S => x.1.2).Perm (sortRows (d.toList.map fun x => x.1.2)) := (hperm.map _).trans (sortRows_perm _).symm
  have hl1 : ∀ c ∈ d'.toList.map (fun x : RowV S => x.1.2), Lits c := fun c hc => by
    obtain ⟨x, _, rfl⟩ := List.mem_map.1 hc; exact x.2.2.2.2
  refine List.Perm.eq_of_pairwise (le := fun x y => clLe x y = true) ?_ ?_ ?_ hperm2
  · intro a c ha hc h1 h2
    exact clLe_anti (hl1 a ha) (hlits c ((sortRows_perm _).mem_iff.1 hc)) h1 h2
  · rw [List.pairwise_map, List.pairwise_iff_getElem]
    intro i j hi hj hij
    have := hs i j (by omega) hij (by simp at hj; omega)
    have hi' : i < d'.size := by simpa using hi
    have hj' : j < d'.size := by simpa using hj
    rw [getElem!_pos _ i hi', getElem!_pos _ j hj'] at this
    show (!decide (cmpC _ _ < 0)) = true
    have h2 : decide (cmpC (d'.toList[j]).1.2 (d'.toList[i]).1.2 < 0) = false := this
    rw [h2]; rfl
  · unfold sortRows
    have : List.Pairwise (fun a b => clLe a b = true) ((d.toList.map fun x : RowV S => x.1.2).mergeSort clLe) := by
      refine pairwise_mergeSort_of hlits
    exact this
end Go.Proofs.Ytkollnaojpppcaa
