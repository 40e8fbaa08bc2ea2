/- Sorting reasons in place, on the abstract machine; no condition. -/
import Derived.Test.YtecdhmiamlgibaaDoorCo39
import Derived.Test.YtecdhmiamlgibaaDoorFoG
namespace Go.Proofs.YtecdhmiamlgibaaDoor
set_option linter.unusedVariables false
set_option linter.unusedSimpArgs false
set_option linter.unusedSectionVars false
open Go.RowKit Go.Shelf Go.Sort
set_option maxRecDepth 100000
def leX (c d : List Int) : Bool := !decide (cmpX d c < 0)
def sortX (L : List (List Int)) : List (List Int) := L.mergeSort leX
theorem sortX_perm (L : List (List Int)) : (sortX L).Perm L := List.mergeSort_perm _ _
theorem leX_iff {c d : List Int} : leX c d = true ↔ cmpX c d ≤ 0 := by
 unfold leX
 rw [cmpX_anti c d]
 simp
theorem leX_trans {a b c : List Int} (h1 : leX a b = true) (h2 : leX b c = true) : leX a c = true := by
 rw [leX_iff] at *
 exact (cmpX_trans a b c h1 h2).1
theorem leX_total (a b : List Int) : leX a b = true ∨ leX b a = true := by
 rw [leX_iff, leX_iff, cmpX_anti a b]; omega
theorem leX_zero {a b : List Int} (h1 : leX a b = true) (h2 : leX b a = true) : cmpX a b = 0 := by
 rw [leX_iff] at *
 rw [cmpX_anti a b] at h2; omega
theorem sortX_sorted (L : List (List Int)) : List.Pairwise (fun a b => leX a b = true) (sortX L) :=
 List.pairwise_mergeSort (le := leX) (fun a b c h1 h2 => leX_trans h1 h2) (fun a b => by have := leX_total a b; simpa using this) L
def sortR_ren : Go.Shelf.Ren := ⟨fun | 6 => 46 | 15 => 75 | 14 => 74 | 28 => 106 | 29 => 107 | 20 => 98 | 21 => 99 | 22 => 100 | 23 => 101 | 24 => 102 | 25 => 103 | 26 => 104 | 27 => 105 | 46 => 117 | 47 => 118 | 48 => 119 | 49 => 120 | 50 => 121 | 57 => 124 | n => n, fun | 22 => 30 | 24 => 34 | 25 => 72 | 3 => 3 | 39 => 69 | 0 => 0 | 53 => 117 | 55 => 25 | 4 => 4 | 46 => 110 | 45 => 109 | 50 => 114 | 5 => 5 | 9 => 9 | 66 => 125 | 70 => 129 | 76 => 133 | 77 => 134 | n => n, fun | n => n⟩
theorem sortR : Go.Proofs.SlLaysF.n6 Tryd.prog sortR_ren := {
 mixed := by kernel_rfl,
 f6 := ⟨Tryd.f46.name, by decide, Tryd.func46.trans (congrArg some (by kernel_rfl))⟩,
 f14 := ⟨Tryd.f74.name, by decide, Tryd.func74.trans (congrArg some (by kernel_rfl))⟩,
 f15 := Tryd.func75.trans (congrArg some (by kernel_rfl)),
 f20 := ⟨Tryd.f98.name, by decide, Tryd.func98.trans (congrArg some (by kernel_rfl))⟩,
 f21 := ⟨Tryd.f99.name, by decide, Tryd.func99.trans (congrArg some (by kernel_rfl))⟩,
 f22 := ⟨Tryd.f100.name, by decide, Tryd.func100.trans (congrArg some (by kernel_rfl))⟩,
 f23 := ⟨Tryd.f101.name, by decide, Tryd.func101.trans (congrArg some (by kernel_rfl))⟩,
 f24 := ⟨Tryd.f102.name, by decide, Tryd.func102.trans (congrArg some (by kernel_rfl))⟩,
 f25 := ⟨Tryd.f103.name, by decide, Tryd.func103.trans (congrArg some (by kernel_rfl))⟩,
 f26 := ⟨Tryd.f104.name, by decide, Tryd.func104.trans (congrArg some (by kernel_rfl))⟩,
 f27 := ⟨Tryd.f105.name, by decide, Tryd.func105.trans (congrArg some (by kernel_rfl))⟩,
 f28 := Tryd.func106.trans (congrArg some (by kernel_rfl)),
 f29 := Tryd.func107.trans (congrArg some (by kernel_rfl)),
 f46 := ⟨Tryd.f117.name, by decide, Tryd.func117.trans (congrArg some (by kernel_rfl))⟩,
 f47 := Tryd.func118.trans (congrArg some (by kernel_rfl)),
 f48 := Tryd.func119.trans (congrArg some (by kernel_rfl)),
 f49 := ⟨Tryd.f120.name, by decide, Tryd.func120.trans (congrArg some (by kernel_rfl))⟩,
 f50 := ⟨Tryd.f121.name, by decide, Tryd.func121.trans (congrArg some (by kernel_rfl))⟩,
 f57 := ⟨Tryd.f124.name, by decide, Tryd.func124.trans (congrArg some (by kernel_rfl))⟩,
 t0 := Tryd.underlying0,
 a0 := Tryd.isAgg0,
 z0 := Tryd.sizeOf0,
 v0 := Tryd.zeroValue0,
 t3 := Tryd.underlying3,
 a3 := Tryd.isAgg3,
 z3 := Tryd.sizeOf3,
 v3 := Tryd.zeroValue3,
 t4 := Tryd.underlying4,
 a4 := Tryd.isAgg4,
 z4 := Tryd.sizeOf4,
 v4 := Tryd.zeroValue4,
 t5 := Tryd.underlying5,
 a5 := Tryd.isAgg5,
 z5 := Tryd.sizeOf5,
 v5 := Tryd.zeroValue5,
 t9 := Tryd.underlying9,
 a9 := Tryd.isAgg9,
 z9 := Tryd.sizeOf9,
 v9 := Tryd.zeroValue9,
 t22 := Tryd.underlying30,
 a22 := Tryd.isAgg30,
 z22 := Tryd.sizeOf30,
 v22 := Tryd.zeroValue30,
 a24 := Tryd.isAgg34,
 z24 := Tryd.sizeOf34,
 t25 := Tryd.underlying72,
 a25 := Tryd.isAgg72,
 z25 := Tryd.sizeOf72,
 v25 := Tryd.zeroValue72,
 t39 := Tryd.underlying69,
 a39 := Tryd.isAgg69,
 z39 := Tryd.sizeOf69,
 v39 := Tryd.zeroValue69,
 t45 := Tryd.underlying109,
 a45 := Tryd.isAgg109,
 z45 := Tryd.sizeOf109,
 v45 := Tryd.zeroValue109,
 t46 := Tryd.underlying110,
 a46 := Tryd.isAgg110,
 z46 := Tryd.sizeOf110,
 v46 := Tryd.zeroValue110,
 t50 := Tryd.underlying114,
 a50 := Tryd.isAgg114,
 z50 := Tryd.sizeOf114,
 v50 := Tryd.zeroValue114,
 t53 := Tryd.underlying117,
 a53 := Tryd.isAgg117,
 z53 := Tryd.sizeOf117,
 v53 := Tryd.zeroValue117,
 t55 := Tryd.underlying25,
 a55 := Tryd.isAgg25,
 z55 := Tryd.sizeOf25,
 v55 := Tryd.zeroValue25,
 t66 := Tryd.underlying125,
 a66 := Tryd.isAgg125,
 z66 := Tryd.sizeOf125,
 v66 := Tryd.zeroValue125,
 t70 := Tryd.underlying129,
 a70 := Tryd.isAgg129,
 z70 := Tryd.sizeOf129,
 v70 := Tryd.zeroValue129,
 t76 := Tryd.underlying133,
 a76 := Tryd.isAgg133,
 z76 := Tryd.sizeOf133,
 v76 := Tryd.zeroValue133,
 t77 := Tryd.underlying134,
 a77 := Tryd.isAgg134,
 z77 := Tryd.sizeOf134,
 v77 := Tryd.zeroValue134 }


abbrev RowV (S : Nat → Nat → Option Value) := { p : Value × List Int // Rv (G0 S) (aInts p.2) p.1 ∧ p.1.oneCell' = true ∧ okInts p.2 = true ∧ LitsX p.2 }
instance (S : Nat → Nat → Option Value) : Inhabited (RowV S) := ⟨⟨(.slice none 0 0, []), rv_nil 1, rfl, rfl, fun x hx => by cases hx⟩⟩
def encR {S : Nat → Nat → Option Value} (x : RowV S) : Value := x.1.1
def cmpR {S : Nat → Nat → Option Value} (x y : RowV S) : Int := cmpX x.1.2 y.1.2
theorem swoR {S : Nat → Nat → Option Value} : SWO (ltOf (cmpR (S := S))) where
 irrefl x := by show decide (cmpX _ _ < 0) = false; rw [cmpX_self]; rfl
 trans x y z h1 h2 := by
  have k1 : cmpX x.1.2 y.1.2 < 0 := of_decide_eq_true h1
  have k2 : cmpX y.1.2 z.1.2 < 0 := of_decide_eq_true h2
  exact decide_eq_true ((cmpX_trans x.1.2 y.1.2 z.1.2 (by omega) (by omega)).2 (.inl k1))
 ntrans x y z h1 h2 := by
  have k1 : ¬ cmpX x.1.2 y.1.2 < 0 := of_decide_eq_false h1
  have k2 : ¬ cmpX y.1.2 z.1.2 < 0 := of_decide_eq_false h2
  have k3 := (cmpX_trans z.1.2 y.1.2 x.1.2 (by rw [cmpX_anti y.1.2 z.1.2]; omega) (by rw [cmpX_anti x.1.2 y.1.2]; omega)).1
  show decide (cmpX x.1.2 z.1.2 < 0) = false
  rw [cmpX_anti z.1.2 x.1.2]
  exact decide_eq_false (by omega)
theorem sortX_c {S : Nat → Nat → Option Value} {w : World} (hS : StOk S w) {b base cap : Nat} (hsep : ∀ p, S b p = none) (hb : b < w.heap.size) (d : Array (RowV S)) (hd : Holds encR w b base d) (hsz : d.size < 4611686018427387904) (hanti : ∀ a c, a ∈ d.toList.map (fun x : RowV S => x.1.2) → c ∈ d.toList.map (fun x : RowV S => x.1.2) → cmpX a c = 0 → a = c) :
  Calls Tryd.prog 46 #[.slice (some ⟨b, base, none⟩) d.size cap, .func (.func 47) #[] #[]] w fun e w' =>
   e = .returned (.tuple #[]) ∧ ∃ (d' : Array (RowV S)) (q : Nat) (os : Array Obj), d'.size = d.size ∧ d'.toList.map (fun x => x.1.2) = sortX (d.toList.map fun x => x.1.2) ∧ w' = sortWorld encR w b base q d' os := by
 have eg : ∀ args w, (callFunc 47 args).run Tryd.prog w = .ok (.enter 47 args) w := enters_fn Tryd.func47 (by kernel_rfl) rfl
 have hcmp : CmpReads Tryd.prog 47 #[] (encR (S := S)) cmpR b base d.size w := fun m os dk _ x y => by
  have hst : StOk S (sortWorld encR w b base m dk os) := ⟨fun b' o u h => by
   have h1 := hS.1 b' o u h
   have hne : b' ≠ b := fun e => by subst e; rw [hsep] at h; cases h
   have hlt := World.block_lt_of_cell? _ _ h1
   have : (sortWorld encR w b base m dk os).heap[b']? = w.heap[b']? := by
    show ((putRow encR (Sort.ahead w m) b base dk).heap ++ os)[b']? = _
    rw [Array.getElem?_append_left (by simpa [putRow, mapBlock, Sort.ahead] using hlt)]
    simp [putRow, mapBlock, Sort.ahead, Array.getElem?_modify, Ne.symm hne]
   rw [← h1]; unfold World.cell?; simp only [this], hS.2⟩
  exact compare_c (ints_of hst x.2.1 (toInts_ints _) x.2.2.2.1) (ints_of hst y.2.1 (toInts_ints _) y.2.2.2.1) x.2.2.2.2 y.2.2.2.2
 have hT := Any.slices_SortFunc sortR (encR (S := S)) (fun x => x.2.2.1) cmpR swoR 47 #[] b base cap d w eg (CmpReads.lays hcmp) hd hb hsz
 change Calls Tryd.prog 46 _ _ _ at hT
 refine hT.mono fun e w' ⟨he, d', q, os, hp, hs, hw⟩ => ⟨he, d', q, os, hp.1, ?_, hw⟩
 obtain ⟨hsz', _, hperm⟩ := hp
 have e1 : d'.extract 0 d.size = d' := by rw [← hsz']; exact Array.extract_size
 rw [e1, Array.extract_size] at hperm
 have hperm2 : (d'.toList.map fun x : RowV S => x.1.2).Perm (sortX (d.toList.map fun x => x.1.2)) := (hperm.map _).trans (sortX_perm _).symm
 refine List.Perm.eq_of_pairwise (le := fun x y => leX x y = true) ?_ ?_ ?_ hperm2
 ·intro a c ha hc h1 h2
  exact hanti a c ((hperm.map _).mem_iff.1 ha) ((sortX_perm _).mem_iff.1 hc) (leX_zero h1 h2)
 ·rw [List.pairwise_map, List.pairwise_iff_getElem]
  intro i j hi hj hij
  have := hs i j (by omega) hij (by simp at hj; omega)
  have hi' : i < d'.size := by simpa using hi
  have hj' : j < d'.size := by simpa using hj
  rw [getElem!_pos _ i hi', getElem!_pos _ j hj'] at this
  show (!decide (cmpX _ _ < 0)) = true
  have h2 : decide (cmpX (d'.toList[j]).1.2 (d'.toList[i]).1.2 < 0) = false := this
  rw [h2]; rfl
 ·exact sortX_sorted _
theorem sortWorld_block {S : Nat → Nat → Option Value} {w : World} {b base q : Nat} {d : Array (RowV S)} {os : Array Obj} {k : Nat} (hk : k < w.heap.size) (hne : k ≠ b) : (sortWorld encR w b base q d os).heap[k]? = w.heap[k]? := by
 show ((putRow encR (Sort.ahead w q) b base d).heap ++ os)[k]? = _
 rw [Array.getElem?_append_left (by simpa [putRow, mapBlock, Sort.ahead] using hk)]
 simp [putRow, mapBlock, Sort.ahead, Array.getElem?_modify, Ne.symm hne]
theorem sortWorld_own {S : Nat → Nat → Option Value} {w : World} {b base q : Nat} {d : Array (RowV S)} {os : Array Obj} {vs : Array Value} {t : TypeId} {fz : Nat × Nat} (h : w.heap[b]? = some (.cells vs t fz)) : (sortWorld encR w b base q d os).heap[b]? = some (.cells (putCells encR base d vs) t fz) := by
 have hlt := (Array.getElem?_eq_some_iff.1 h).1
 show ((putRow encR (Sort.ahead w q) b base d).heap ++ os)[b]? = _
 rw [Array.getElem?_append_left (by simpa [putRow, mapBlock, Sort.ahead] using hlt)]
 simp [putRow, mapBlock, Sort.ahead, Array.getElem?_modify, h, onCells]
theorem run_call_args {P : Program} {o : Oper} {f : FuncId} {args : Array Operand} {ts : Array TypeId} (ho : o.op = .call { callee := .value (.func f), args := args, argTypes := ts }) (hf : fnB P f = true) (a : Act) (w : World) : (execOp a.eval o).run P w = .ok (.enter f (args.map a.eval)) w := by
 unfold execOp
 rw [ho]
 simp [resolve, Act.eval, Deferred.ofValue, invoke, run_callFunc hf]
theorem ok_sortX {σ : AS} {o : Oper} {x : Operand} {ts : Array TypeId} {k : Nat} {t : TypeId} {L : List (List Int)} (ho : o.op = .call { callee := .value (.func 46), args := #[x, .func 47], argTypes := ts })
  (hx : σ.ev x = some (.ref k 0 L.length)) (hob : lk σ.objs k = some ⟨t, 1, L.map fun c => [aInts c]⟩) (hL : okRows L = true) (hl : ∀ c ∈ L, LitsX c) (hanti : ∀ a c, a ∈ L → c ∈ L → cmpX a c = 0 → a = c) : CoreOk Tryd.prog o σ (.v (.tuple #[]), [(k, some ⟨t, 1, (sortX L).map fun c => [aInts c]⟩)]) := by
 intro B G w a hr K Q hK
 have hv := hr.ev hx
 have hlen := okRows_len hL
 unfold Oper.wp
 rw [run_call_args ho (by kernel_rfl)]
 have harg : (#[x, Operand.func 47] : Array Operand).map a.eval = #[a.eval x, .func (.func 47) #[] #[]] := by simp [Act.eval]
 rw [harg]
 generalize a.eval x = v at hv
 cases hv with
 | ref _ _ _ blk base cap sz ad hloc hle hm hb h0 =>
  obtain ⟨blk', base', cap', g1, g2, g3, g4, g5⟩ := (hr.heap.obj k _ hob).cells Nat.one_pos
  rw [hloc] at g1
  cases g1
  by_cases hne : L.length = 0
  ·obtain rfl : L = [] := List.eq_nil_of_length_eq_zero hne
   have hS := AnyF.slices_SortFunc_none (P := Tryd.prog) (ρ := sortR_ren) { sortR with } ad (cap - 0) (.func (.func 47) #[] #[]) w
   change Calls Tryd.prog 46 _ _ _ at hS
   refine Calls.mono hS fun e w' ⟨he, hw⟩ => ?_
   subst he; subst hw
   refine hK G w' (.tuple #[]) (Gh.le.refl G) ?_ (.v _)
   refine StEq.R (σ := σ) (τ := σ.upd [(k, some (⟨t, 1, (sortX []).map fun c => [aInts c]⟩ : AObj))]) ⟨rfl, fun _ => rfl, fun q => ?_, fun q => ?_⟩ hr
   ·simp only [AS.upd, updO, lk_st]
    split
    ·rename_i e; subst e; rw [hob]; simp [sortX]
    ·rfl
   ·rw [show (σ.upd [(k, some (⟨t, 1, (sortX []).map fun c => [aInts c]⟩ : AObj))]).ids = updI σ.ids [(k, some ⟨t, 1, (sortX []).map fun c => [aInts c]⟩)] from rfl, updI_mem]
    constructor
    ·exact .inr
    ·rintro (h | h)
     ·simp at h; subst h; exact hr.ids _ (by rw [hloc]; simp)
     ·exact h
  ·obtain ⟨b, rfl, rfl⟩ := hb (by omega)
   obtain ⟨vs, g6, g7, g8⟩ := g5
   have hget : ∀ i, i < L.length → (L.map fun c => [aInts c]).getD i [] = [aInts (L.getD i [])] := fun i hi => getD_map_rows hi
   have hrow : ∀ i, i < L.length → (vs.getD (base + i) undef).oneCell' = true ∧ Rv (G0 G.S) (aInts (L.getD i [])) (vs.getD (base + i) undef) := fun i hi => by
    obtain ⟨h1, h2⟩ := g8 i 0 (by simpa using hi) (by show 0 < 1; omega)
    have e1 : base + (i * (⟨t, 1, L.map fun c => [aInts c]⟩ : AObj).sz + 0) = base + i := by show base + (i * 1 + 0) = _; omega
    rw [e1] at h1 h2
    rw [show (⟨t, 1, L.map fun c => [aInts c]⟩ : AObj).xs.getD i [] = [aInts (L.getD i [])] from hget i hi] at h2
    exact ⟨h1, Rv.pure (G := G) (G' := G0 G.S) (fun _ _ _ h => h) h2 (ids_ints _)⟩
   have hblk := (Array.getElem?_eq_some_iff.1 g6).1
   let d : Array (RowV G.S) := (List.ofFn fun i : Fin L.length => (⟨(vs.getD (base + i.1) undef, L.getD i.1 []), (hrow i.1 i.2).2, (hrow i.1 i.2).1, okRows_at hL i.1, by
    have : L.getD i.1 [] = L[i.1] := by simp [i.2]
    rw [this]; exact hl _ (List.getElem_mem _)⟩ : RowV G.S)).toArray
   have hdsz : d.size = L.length := by simp [d]
   have hdget : ∀ j, j < d.size → (d[j]!).1 = (vs.getD (base + j) undef, L.getD j []) := fun j hj => by
    have hj2 : j < L.length := by omega
    rw [getElem!_pos d j hj]; simp [d, List.getD, hj2]
   have hdL : d.toList.map (fun x => x.1.2) = L := by
    apply List.ext_getElem
    ·simp [d]
    ·intro i h1 h2
     simp [d, List.getD, h2]
   have hH : Holds encR w b (base + 0 * 1) d := fun j hj => by
    have hj' : base + j < vs.size := by
     have : j < cap := by omega
     have : base + cap * 1 ≤ vs.size := g7
     omega
    refine ⟨?_, by simp [World.frozen?, g6]⟩
    show w.cell? ⟨b, base + 0 * 1 + j, none⟩ = some (d[j]!).1.1
    rw [hdget j hj, show base + 0 * 1 + j = base + j by omega]
    simp [World.cell?, g6, hj']
   have hS := sortX_c hr.heap.stOk (cap := cap - 0) (hr.heap.sep k _ hob b _ hloc) hblk d hH (by omega) (by rw [hdL]; exact hanti)
   rw [hdsz] at hS
   refine Calls.mono hS fun e w' ⟨he, d', q, os, hs1, hs2, hw⟩ => ?_
   subst he
   rw [hdL] at hs2
   refine hK G w' (.tuple #[]) (Gh.le.refl G) ?_ (.v _)
   have hown : w'.heap[b]? = some (.cells (putCells encR (base + 0 * 1) d' vs) t (0, 0)) := by rw [hw]; exact sortWorld_own g6
   have hsl : (sortX L).length = L.length := (sortX_perm L).length_eq
   refine ⟨hr.n, hr.slot, hr.defers, ?_, fun q hq => ?_⟩
   ·refine hr.heap.step (by rw [hw]; rfl) (by rw [hw]; rfl) (by rw [hw]; rfl) (by rw [hw]; show _ ≤ ((putRow encR (Sort.ahead w q) b (base + 0 * 1) d').heap ++ os).size; simp [putRow, mapBlock, Sort.ahead]) (Gh.le.refl G) rfl b k (fun b' hne' hlt => by rw [hw]; exact sortWorld_block hlt hne') (.inr ⟨k, _, _, hob, hloc⟩) (fun q' ob' hq' => ?_)
    simp only [AS.upd, updO, lk_st] at hq'
    split at hq'
    ·rename_i e; subst e; cases hq'
     refine .inl ⟨rfl, .of Nat.one_pos ⟨some b, base, cap, hloc, by simp [hsl]; omega, g3, fun i hi => ?_, _, hown, ?_, fun i j hi hj => ?_⟩, fun b' x hl' => ?_⟩
     ·simp only [List.length_map] at hi
      simp [List.getD, hi]
     ·simpa [putCells] using g7
     ·simp only [List.length_map] at hi
      have hj0 : j = 0 := by
       have : j < 1 := hj
       omega
      subst hj0
      have hi' : i < d'.size := by omega
      have e1 : base + (i * (⟨t, 1, (sortX L).map fun c => [aInts c]⟩ : AObj).sz + 0) = base + i := by show base + (i * 1 + 0) = _; omega
      rw [e1]
      have hvi : base + i < vs.size := by
       have : base + cap * 1 ≤ vs.size := g7
       omega
      have e2 : (putCells encR (base + 0 * 1) d' vs).getD (base + i) undef = (d'[i]!).1.1 := by
       simp only [putCells, Nat.zero_mul, Nat.add_zero, Array.getD_eq_getD_getElem?, Array.getElem?_mapIdx]
       rw [Array.getElem?_eq_getElem hvi]
       simp only [Option.map_some, Option.getD_some]
       rw [if_pos (by omega), show base + i - base = i by omega]
       rfl
      rw [e2, getElem!_pos d' i hi']
      refine ⟨d'[i].2.2.1, ?_⟩
      have e3 : ((⟨t, 1, (sortX L).map fun c => [aInts c]⟩ : AObj).xs.getD i []).getD 0 .any = aInts (d'[i].1.2) := by
       show (((sortX L).map fun c => [aInts c]).getD i []).getD 0 .any = _
       rw [getD_map_rows hi, ← hs2]
       simp [List.getD, hi']
      rw [e3]
      exact Rv.mono (G := G0 G.S) (G' := G) ⟨fun _ _ _ h => h, fun _ _ h => by cases h⟩ d'[i].2.1
     ·rw [hloc] at hl'; cases hl'; rfl
    ·rename_i e
     refine .inr ⟨Ne.symm e, hq', fun b' x hl' e2 => ?_⟩
     subst e2
     exact e (hr.heap.inj _ _ _ _ hob hq' _ _ _ hloc hl')
   ·rw [show (σ.upd [(k, some (⟨t, 1, (sortX L).map fun c => [aInts c]⟩ : AObj))]).ids = updI σ.ids [(k, some ⟨t, 1, (sortX L).map fun c => [aInts c]⟩)] from rfl, updI_mem]
    exact .inr (hr.ids q hq)
end Go.Proofs.YtecdhmiamlgibaaDoor
