/- Contract of censusref16.grow; no condition. -/
import Derived.Test.YtekeidhndlnghaaRef16b
import Derived.Test.YtekeidhndlnghaaEq
namespace Go.Proofs.Ytekeidhndlnghaa
set_option linter.unusedVariables false
set_option linter.unusedSimpArgs false
set_option linter.unusedSectionVars false
open Go.RowKit

structure Blk (w : World) (b : Nat) (e : TypeId) (cs : Array Value) : Prop where
  block : w.heap[b]? = some (.cells cs e (0, 0))
theorem Blk.lt {w : World} {b : Nat} {e : TypeId} {cs : Array Value} (h : Blk w b e cs) : b < w.heap.size := (Array.getElem?_eq_some_iff.1 h.block).1
theorem Blk.at {w : World} {b : Nat} {e : TypeId} {cs : Array Value} (h : Blk w b e cs) (i : Nat) {v : Value} (hv : cs[i]? = some v) : w.cell? ⟨b, i, none⟩ = some v := by simp [World.cell?, h.block, hv]
theorem Blk.f {w : World} {b : Nat} {e : TypeId} {cs : Array Value} (h : Blk w b e cs) (o : Nat) : w.frozen? ⟨b, o, none⟩ = false := by simp [World.frozen?, h.block]
theorem Blk.below {w w' : World} {b : Nat} {e : TypeId} {cs : Array Value} {B : Nat} (h : Blk w b e cs) (k : Below B w w') (hb : b < B) : Blk w' b e cs := ⟨by rw [k.block b hb]; exact h.block⟩
theorem Blk.set {w : World} {b : Nat} {e : TypeId} {cs : Array Value} (h : Blk w b e cs) (i : Nat) (v : Value) : Blk (w.setCell ⟨b, i, none⟩ v) b e (cs.setIfInBounds i v) := by
  constructor; simp [World.setCell, h.block, Array.getElem?_modify]
theorem Blk.other {w : World} {b : Nat} {e : TypeId} {cs : Array Value} (h : Blk w b e cs) (a : Addr) (hne : b ≠ a.block) (u : Value) : Blk (w.setCell a u) b e cs := ⟨by rw [Below.heap_setCell _ _ _ _ hne]; exact h.block⟩
theorem Blk.new (w : World) (e : TypeId) (cs : Array Value) : Blk (w.alloc (.cells cs e)) w.heap.size e cs := ⟨heap_alloc_new w _⟩
theorem Blk.alloc {w : World} {b : Nat} {e : TypeId} {cs : Array Value} (h : Blk w b e cs) (o : Obj) : Blk (w.alloc o) b e cs := ⟨by rw [Below.heap_alloc _ _ _ h.lt]; exact h.block⟩
theorem Blk.grown {w w' : World} {b : Nat} {e : TypeId} {cs : Array Value} {row : Option Nat} (h : Blk w b e cs) (hg : w.grownBy w' row) (hne : some b ≠ row) : Blk w' b e cs := ⟨by rw [hg.block b h.lt hne]; exact h.block⟩
theorem Two.alloc' {w : World} {b : Nat} {e : TypeId} {x y : Value} (h : Two w b e x y) (o : Obj) : Two (w.alloc o) b e x y := h.alloc o
theorem Two.grown {w w' : World} {b : Nat} {e : TypeId} {x y : Value} {row : Option Nat} (h : Two w b e x y) (hg : w.grownBy w' row) (hne : some b ≠ row) : Two w' b e x y := ⟨by rw [hg.block b h.lt hne]; exact h.block⟩

theorem litOk_pos {l n : Int} (h : litOk l n = true) : 1 ≤ litVar l := by
  unfold litOk at h; simp only [Bool.and_eq_true, decide_eq_true_eq] at h; omega

theorem growIdx_snoc (L : List (List Int)) (ts : List Int) (f : Nat) (S : BitVec 128) (j : Nat) :
    ((List.range (j + 1)).filter fun i => leftL (L.getD i []) ts && (decide (i = f) || meetB (litVars (restL (L.getD i []) ts)) S)) =
    ((List.range j).filter fun i => leftL (L.getD i []) ts && (decide (i = f) || meetB (litVars (restL (L.getD i []) ts)) S)) ++ (if leftL (L.getD j []) ts && (decide (j = f) || meetB (litVars (restL (L.getD j []) ts)) S) then [j] else []) := by
  rw [List.range_succ, List.filter_append]
  congr 1
  simp only [List.filter_cons, List.filter_nil]
def growTo (L : List (List Int)) (ts : List Int) (f : Nat) (S : BitVec 128) (j : Nat) : List Int :=
  ((List.range j).filter fun i => leftL (L.getD i []) ts && (decide (i = f) || meetB (litVars (restL (L.getD i []) ts)) S)).map fun i : Nat => (i : Int)
theorem growTo_succ (L : List (List Int)) (ts : List Int) (f : Nat) (S : BitVec 128) (j : Nat) :
    growTo L ts f S (j + 1) = if leftL (L.getD j []) ts && (decide (j = f) || meetB (litVars (restL (L.getD j []) ts)) S) then growTo L ts f S j ++ [(j : Int)] else growTo L ts f S j := by
  unfold growTo
  rw [growIdx_snoc]
  split <;> simp
theorem growTo_len (L : List (List Int)) (ts : List Int) (f : Nat) (S : BitVec 128) (j : Nat) : (growTo L ts f S j).length ≤ j := by
  unfold growTo; rw [List.length_map]; exact Nat.le_trans (List.length_filter_le _ _) (by simp)

theorem Enc.setOther {α : Type} (E : Enc α) {F : Foot} {w : World} {x : α} {cs : List Value} (h : E.rep F w x cs) {a : Addr} (u : Value) (hne : ∀ b e fz, F b e fz → b ≠ a.block) : E.rep F (w.setCell a u) x cs :=
  E.mono h fun b c e fz hh hf => by rw [Below.heap_setCell _ _ _ _ (hne b e fz hf)]; exact hh

theorem ownsSet {F : Foot} {w : World} {B : Nat} {t : TypeId} {v : Value} {xs : List Int} (h : OwnL eInt F w B t v xs) {a : Addr} (ha : a.block < B) (u : Value) : OwnL eInt F (w.setCell a u) B t v xs := by
  rw [OwnL.int_iff] at *
  exact ⟨ownsRow_setCell_below h.1 ha u, h.2⟩

def GivesPart (w : World) (S : BitVec 128) (I : List Int) (e : Ending) (w' : World) : Prop :=
  ∃ v, e = .returned (.agg #[WV (lo S), WV (hi S), v]) ∧ Ints (Fresh w.heap.size) w' v I ∧ Below w.heap.size w w'

set_option maxHeartbeats 2000000 in
set_option maxRecDepth 100000 in
theorem ref16grow_c {F G : Foot} {w : World} {v u : Value} {L : List (List Int)} {ts : List Int} (N : Int) (f : Nat) (h : IntRows F w v L) (ht : Ints G w u ts)
    (hL : ∀ c ∈ L, ∀ l ∈ c, litOk l N = true) (hf : f < L.length) :
    Calls Try.prog 36 #[.agg #[.int .i64 N, v], u, .int .i64 f] w (GivesPart w (growSet L ts (litVars (restL (L.getD f []) ts))) (growIdx L ts f (growSet L ts (litVars (restL (L.getD f []) ts))))) := by
  obtain ⟨i0, hinf, hz0, hz1, hz2⟩ := info_parts infoInt
  obtain ⟨a, n, c, rfl, HE, _, hm⟩ := h.open
  have HR := Lib.hid h
  have HT := Lib.hid ht
  have HLT := Lib.hid hL
  have hfn : f < n := by rw [HE.out]; exact hf
  clear h ht hL hf
  -- what Rest and vars do with a row
  have hRV : ∀ (W : World) (k : Nat) (vr : Value), Below w.heap.size w W → k < n → Ints F W vr (L.getD k []) → Calls Try.prog 40 #[vr, u] W (GivesInts W (restL (L.getD k []) ts)) := fun W k vr hW hk hr =>
    ref16Rest_c hr (Enc.below _ HT.out hW) (fun y hy => by have := litOk_range (HLT.out _ (getD_mem L k (by have := HE.out; omega) []) y hy); omega)
  have hVV : ∀ (W : World) (k : Nat) (vr : Value) (H : Foot), k < n → Ints H W vr (restL (L.getD k []) ts) → Calls Try.prog 35 #[vr] W (Gives W (SV (litVars (restL (L.getD k []) ts)))) := fun W k vr H hk hr =>
    ref16vars_c hr (fun y hy => litOk_pos (HLT.out _ (getD_mem L k (by have := HE.out; omega) []) y (List.mem_filter.1 hy).1))
  have hLV : ∀ (W : World) (k : Nat) (vr : Value), Below w.heap.size w W → Ints F W vr (L.getD k []) → Calls Try.prog 22 #[vr, u] W fun e w' => e = .returned (.bool (leftL (L.getD k []) ts)) ∧ W = w' := fun W k vr hW hr =>
    ref16Left_c hr (Enc.below _ HT.out hW)
  have HRV := Lib.hid hRV
  have HVV := Lib.hid hVV
  have HLV := Lib.hid hLV
  clear hRV hVV hLV
  have hI0 : IntRows F ((w.alloc (.cells #[.int .i64 N, .slice a n c] 24)).alloc (.cells #[.int .u64 0, .int .u64 0, .slice none 0 0] 56)) (.slice a n c) L := Enc.below _ HR.out (below2 _ _ _)
  obtain ⟨b, o, a2, n2, c2, rfl, hcell, hrow, HE2, hm2⟩ := hI0.at f hfn
  have HI := Lib.hid hrow
  clear hI0 hrow
  have hf0 : (0 : Int) ≤ f := by omega
  have hf1 : (f : Int) < n := by omega
  go_enter Try.func36, Try.ntmps36
  go_wp2_with fail
  refine (HRV.out _ f _ (below2 _ _ _) hfn HI.out).mono ?_
  rintro e w1 ⟨v1, rfl, hv1, hb1⟩
  go_wp2_with fail
  refine (HVV.out _ f _ _ hfn hv1).mono ?_
  rintro e w2 ⟨rfl, hb2⟩
  have hbox : Two w2 w.heap.size 24 (.int .i64 N) (.slice (some ⟨b, o, none⟩) n c) := (((Two.new w _ _ _).alloc _).below hb1 (by simp; omega)).below hb2 (by have := hb1.size; simp at this; omega)
  have hres : Blk w2 (w.heap.size + 1) 56 #[.int .u64 0, .int .u64 0, .slice none 0 0] := Blk.below (Blk.below (by
    have := Blk.new (w.alloc (.cells #[.int .i64 N, .slice (some ⟨b, o, none⟩) n c] 24)) 56 #[.int .u64 0, .int .u64 0, .slice none 0 0]
    simpa using this) hb1 (by simp)) hb2 (by have := hb1.size; simp at this; omega)
  have hbb : Below w.heap.size w w2 := ((below2 _ _ _).trans (hb1.mono (by simp; omega))).trans (hb2.mono (by have := hb1.size; simp at this; omega))
  clear hb1 hb2 hv1 hcell
  generalize hs0 : litVars (restL (L.getD f []) ts) = s0 at *
  go_wp2
  have hbox2 := hbox.alloc (.cells #[.int .u64 ((lo s0).toNat : Int), .int .u64 ((hi s0).toNat : Int)] 31)
  have hres2 := hres.alloc (.cells #[.int .u64 ((lo s0).toNat : Int), .int .u64 ((hi s0).toNat : Int)] 31)
  have hs2 := Two.new w2 31 (.int .u64 ((lo s0).toNat : Int)) (.int .u64 ((hi s0).toNat : Int))
  have hbb2 := hbb.alloc hbb.size (.cells #[.int .u64 ((lo s0).toNat : Int), .int .u64 ((hi s0).toNat : Int)] 31)
  have hlt7 : w.heap.size + 1 < w2.heap.size := hres.lt
  generalize w2.alloc (.cells #[.int .u64 ((lo s0).toNat : Int), .int .u64 ((hi s0).toNat : Int)] 31) = w3 at *
  generalize w2.heap.size = b7 at *
  clear hbox hres hbb hs0
  go_loopg [] 129 (fun g wr => ∃ k : Nat, g + k = 129 ∧ Hid (k ≤ card (growIter L ts s0 k)) ∧ Two wr w.heap.size 24 (.int .i64 N) (.slice (some ⟨b, o, none⟩) n c) ∧ Blk wr (w.heap.size + 1) 56 #[.int .u64 0, .int .u64 0, .slice none 0 0] ∧ Two wr b7 31 (WV (lo (growIter L ts s0 k))) (WV (hi (growIter L ts s0 k))) ∧ Below w.heap.size w wr)
  case atStart => exact ⟨0, rfl, Nat.zero_le _, hbox2, hres2, hs2, hbb2⟩
  case round =>
    clear hbox2 hres2 hs2 hbb2
    obtain ⟨k, hg, hcard, hbox, hres, hs, hb⟩ := hrel
    have hs0 := hs.c0
    have hs1 := hs.c1
    have hlt8 := hs.lt
    go_wp2
    -- the inner loop: one clause after the other
    have hbox2 := hbox.alloc (.cells #[WV (lo (growIter L ts s0 k)), WV (hi (growIter L ts s0 k))] 31)
    have hres2 := hres.alloc (.cells #[WV (lo (growIter L ts s0 k)), WV (hi (growIter L ts s0 k))] 31)
    have hs2 := hs.alloc (.cells #[WV (lo (growIter L ts s0 k)), WV (hi (growIter L ts s0 k))] 31)
    have hn2 := Two.new wr 31 (WV (lo (growIter L ts s0 k))) (WV (hi (growIter L ts s0 k)))
    have hbb2 := hb.alloc hb.size (.cells #[WV (lo (growIter L ts s0 k)), WV (hi (growIter L ts s0 k))] 31)
    have HGI := Lib.hid (show growIter L ts s0 (k + 1) = growRound L ts (growIter L ts s0 k) from rfl)
    generalize hsk : growIter L ts s0 k = sk at *
    have HSK := Lib.hid hsk
    clear hsk
    generalize wr.alloc (.cells #[WV (lo sk), WV (hi sk)] 31) = w4 at *
    generalize wr.heap.size = b8 at *
    clear hbox hres hs hb hs0 hs1
    go_loopw [9] (fun i wr => ∃ j : Nat, j ≤ n ∧ i = .int .i64 j ∧ Two wr w.heap.size 24 (.int .i64 N) (.slice (some ⟨b, o, none⟩) n c) ∧ Blk wr (w.heap.size + 1) 56 #[.int .u64 0, .int .u64 0, .slice none 0 0] ∧ Two wr b7 31 (WV (lo sk)) (WV (hi sk)) ∧ Two wr b8 31 (WV (lo (growRound (L.take j) ts sk))) (WV (hi (growRound (L.take j) ts sk))) ∧ Below w.heap.size w wr) (fun i _ => n - (intOf i).toNat)
    case atStart => exact ⟨0, Nat.zero_le _, rfl, hbox2, hres2, hs2, by simpa [growRound] using hn2, hbb2⟩
    case round =>
      clear hbox2 hres2 hs2 hn2 hbb2
      obtain ⟨j, hj, rfl, hbox, hres, hs, hn, hb⟩ := hrel
      obtain ⟨wo, rfl⟩ : ∃ wo : World, wo = wr := ⟨_, rfl⟩
      have t0 := hbox.c0
      have t1 := hbox.c1
      by_cases hlt : j < n
      · have hI : IntRows F wo (.slice (some ⟨b, o, none⟩) n c) L := Enc.below _ HR.out hb
        obtain ⟨b', o', a3, n3, c3, he, hcell, hrow, HE3, hm3⟩ := hI.at j hlt
        cases he
        have HI3 := Lib.hid hrow
        have HS := Lib.hid (take_succ_getD L j (by have := HE.out; omega) [])
        have HSN := Lib.hid (growRound_snoc (L.take j) (L.getD j []) ts sk)
        clear hI hrow
        have hj0 : (0 : Int) ≤ j := by omega
        have hj1 : (j : Int) < n := by omega
        go_wp2_with fail
        refine (HRV.out _ j _ hb hlt HI3.out).mono ?_
        rintro e w1 ⟨v1, rfl, hv1, hb1⟩
        go_wp2_with fail
        refine (HVV.out _ j _ _ hlt hv1).mono ?_
        rintro e w2 ⟨rfl, hb2⟩
        have hb12 := hb1.trans (hb2.mono hb1.size)
        have hboxA := (hbox.below hb12 hbox.lt).alloc (.cells #[WV (lo (litVars (restL (L.getD j []) ts))), WV (hi (litVars (restL (L.getD j []) ts)))] 31)
        have hresA := (hres.below hb12 hres.lt).alloc (.cells #[WV (lo (litVars (restL (L.getD j []) ts))), WV (hi (litVars (restL (L.getD j []) ts)))] 31)
        have hsA := (hs.below hb12 hs.lt).alloc (.cells #[WV (lo (litVars (restL (L.getD j []) ts))), WV (hi (litVars (restL (L.getD j []) ts)))] 31)
        have hnA := (hn.below hb12 hn.lt).alloc (.cells #[WV (lo (litVars (restL (L.getD j []) ts))), WV (hi (litVars (restL (L.getD j []) ts)))] 31)
        have hxA := Two.new w2 31 (WV (lo (litVars (restL (L.getD j []) ts)))) (WV (hi (litVars (restL (L.getD j []) ts))))
        have hbA := (hb.trans (hb12.mono hb.size)).alloc (by have := hb.size; have := hb12.size; omega) (.cells #[WV (lo (litVars (restL (L.getD j []) ts))), WV (hi (litVars (restL (L.getD j []) ts)))] 31)
        have hlt10 : b8 < w2.heap.size := (hn.below hb12 hn.lt).lt
        have hlt10b : b7 < w2.heap.size := (hs.below hb12 hs.lt).lt
        have hlt10c : w.heap.size + 1 < w2.heap.size := (hres.below hb12 hres.lt).lt
        have hrowA := HI3.out
        have hcellA : (w2.alloc (.cells #[WV (lo (litVars (restL (L.getD j []) ts))), WV (hi (litVars (restL (L.getD j []) ts)))] 31)).cell? ⟨b, o + j, none⟩ = some (.slice a3 n3 c3) := by
          rw [((hb12.alloc hb12.size _) : Below wo.heap.size wo _).cell (p := ⟨b, o + j, none⟩) (World.block_lt_of_cell? _ _ hcell)]; exact hcell
        have hrowB := Enc.below _ hrowA ((hb12.alloc hb12.size (.cells #[WV (lo (litVars (restL (L.getD j []) ts))), WV (hi (litVars (restL (L.getD j []) ts)))] 31)))
        have HRB := Lib.hid hrowB
        have hLL := HLV.out _ j _ hbA HRB.out
        have HX := Lib.hid (show growStep ts (growRound (L.take j) ts sk) (L.getD j []) = if leftL (L.getD j []) ts && meetB (litVars (restL (L.getD j []) ts)) (growRound (L.take j) ts sk) then growRound (L.take j) ts sk ||| litVars (restL (L.getD j []) ts) else growRound (L.take j) ts sk from rfl)
        clear hrowA hrowB hb1 hb2 hv1 hbox hres hs hn hcell
        have hmeet := fun W => ref16meet_c (litVars (restL (L.getD j []) ts)) (growRound (L.take j) ts sk) W
        have hjoin := fun W => ref16join_c (growRound (L.take j) ts sk) (litVars (restL (L.getD j []) ts)) W
        generalize litVars (restL (L.getD j []) ts) = x at *
        generalize hnx : growRound (L.take j) ts sk = nx at *
        clear hnx hb12
        unfold SV Gives at hmeet hjoin
        clear t0 t1 hb
        have q1 := hboxA.c1
        have x0 := hxA.c0
        have x1 := hxA.c1
        have n0 := hnA.c0
        have n1 := hnA.c1
        cases hl : leftL (L.getD j []) ts
        · simp only [hl] at hLL
          have HX2 : Hid (growRound (L.take (j + 1)) ts sk = nx) := by unfold Hid; rw [HS.out, HSN.out, HX.out, hl]; simp
          clear hl HX
          have HLL := Lib.hid hLL
          clear hLL hmeet hjoin
          go_wp2_with fail
          refine HLL.out.mono ?_
          rintro e w5 ⟨rfl, rfl⟩
          go_wp2
          go_roundw
          case rel => exact ⟨j + 1, by omega, by go_num, hboxA, hresA, hsA, by rw [HX2.out]; exact hnA, hbA⟩
          case measure => simp [intOf]; omega
        · simp only [hl] at hLL
          have HLL := Lib.hid hLL
          clear hLL
          cases hmt : meetB x nx
          · simp only [hmt] at hmeet
            have HX2 : Hid (growRound (L.take (j + 1)) ts sk = nx) := by unfold Hid; rw [HS.out, HSN.out, HX.out, hl, hmt]; simp
            clear hl HX hmt hjoin
            go_wp2_with fail
            refine HLL.out.mono ?_
            rintro e w5 ⟨rfl, rfl⟩
            go_wp2_with fail
            refine (hmeet _).mono ?_
            rintro e w5 ⟨rfl, hb5⟩
            go_wp2
            go_roundw
            case rel => exact ⟨j + 1, by omega, by go_num, hboxA.below hb5 hboxA.lt, hresA.below hb5 hresA.lt, hsA.below hb5 hsA.lt, by rw [HX2.out]; exact hnA.below hb5 hnA.lt, hbA.trans (hb5.mono hbA.size)⟩
            case measure => simp [intOf]; omega
          · simp only [hmt] at hmeet
            have HX2 : Hid (growRound (L.take (j + 1)) ts sk = nx ||| x) := by unfold Hid; rw [HS.out, HSN.out, HX.out, hl, hmt]; simp
            clear hl HX hmt
            go_wp2_with fail
            refine HLL.out.mono ?_
            rintro e w5 ⟨rfl, rfl⟩
            go_wp2_with fail
            refine (hmeet _).mono ?_
            rintro e w5 ⟨rfl, hb5⟩
            have hn5 := hnA.below hb5 hnA.lt
            have hx5 := hxA.below hb5 hxA.lt
            have n50 := hn5.c0
            have n51 := hn5.c1
            have x50 := hx5.c0
            have x51 := hx5.c1
            clear hmeet q1 x0 x1 n0 n1
            go_wp2_with fail
            refine (hjoin _).mono ?_
            rintro e w6 ⟨rfl, hb6⟩
            have hn6 := hn5.below hb6 hn5.lt
            have n60 := hn6.c0
            have n61 := hn6.c1
            have f60 := hn6.f 0
            have f61 := hn6.f 1
            have hb56 := hb5.trans (hb6.mono hb5.size)
            clear hjoin n50 n51 x50 x51
            go_wp2
            go_roundw
            case rel => exact ⟨j + 1, by omega, by go_num, ((hboxA.below hb56 hboxA.lt).other _ (by simp; omega) _).other _ (by simp; omega) _, ((hresA.below hb56 hresA.lt).other _ (by simp; omega) _).other _ (by simp; omega) _, ((hsA.below hb56 hsA.lt).other _ (by simp; omega) _).other _ (by simp; omega) _, by rw [HX2.out]; exact hn6.set _ _, ((hbA.trans (hb56.mono hbA.size)).setCell (by simp; omega) _).setCell (by simp; omega) _⟩
            case measure => simp [intOf]; omega
      · have hjn : j = n := by omega
        subst hjn
        rw [List.take_of_length_le (by have := HE.out; omega)] at hn
        have n0 := hn.c0
        have n1 := hn.c1
        have s0' := hs.c0
        have s1' := hs.c1
        have heq := fun W => eqSets ((lo (growRound L ts sk)).toNat : Int) ((hi (growRound L ts sk)).toNat : Int) ((lo sk).toNat : Int) ((hi sk).toNat : Int) W
        rw [words_beq] at heq
        by_cases hfix : growRound L ts sk = sk
        · rw [hfix] at hn n0 n1 heq
          simp only [decide_true] at heq
          have HF := Lib.hid (show growSet L ts s0 = sk by
            have h1 := growIter_fix (k := k) (s := s0) (L := L) (ts := ts) (by rw [HSK.out]; exact hfix) (129 - k)
            rw [show k + (129 - k) = 129 by omega, HSK.out] at h1
            exact h1)
          clear hfix HGI hcard
          go_wp2
          have hboxA := hbox.alloc (.cells #[.int .u64 ((lo sk).toNat : Int), .int .u64 ((hi sk).toNat : Int), .slice none 0 0] 56)
          have hresA := hres.alloc (.cells #[.int .u64 ((lo sk).toNat : Int), .int .u64 ((hi sk).toNat : Int), .slice none 0 0] 56)
          have hsA := hs.alloc (.cells #[.int .u64 ((lo sk).toNat : Int), .int .u64 ((hi sk).toNat : Int), .slice none 0 0] 56)
          have hpA := Blk.new wo 56 #[.int .u64 ((lo sk).toNat : Int), .int .u64 ((hi sk).toNat : Int), .slice none 0 0]
          have hbA := hb.alloc hb.size (.cells #[.int .u64 ((lo sk).toNat : Int), .int .u64 ((hi sk).toNat : Int), .slice none 0 0] 56)
          have hownA := OwnL.nil eInt (Fresh 0) (wo.alloc (.cells #[.int .u64 ((lo sk).toNat : Int), .int .u64 ((hi sk).toNat : Int), .slice none 0 0] 56)) (wo.heap.size + 1) 3
          have hszA : wo.heap.size + 1 ≤ (wo.alloc (.cells #[.int .u64 ((lo sk).toNat : Int), .int .u64 ((hi sk).toNat : Int), .slice none 0 0] 56)).heap.size := by simp
          have hlt7b := hs.lt
          have hltr := hres.lt
          clear hbox hres hs hn hb n0 n1 s0' s1' t0 t1 heq
          generalize wo.alloc (.cells #[.int .u64 ((lo sk).toNat : Int), .int .u64 ((hi sk).toNat : Int), .slice none 0 0] 56) = w5 at *
          generalize wo.heap.size = b11 at *
          go_loopw [12] (fun i wr => ∃ m : Nat, ∃ vs : Value, m ≤ j ∧ i = .int .i64 m ∧ Two wr w.heap.size 24 (.int .i64 N) (.slice (some ⟨b, o, none⟩) j c) ∧ Blk wr (w.heap.size + 1) 56 #[.int .u64 0, .int .u64 0, .slice none 0 0] ∧ Two wr b7 31 (WV (lo sk)) (WV (hi sk)) ∧ Blk wr b11 56 #[WV (lo sk), WV (hi sk), vs] ∧ OwnL eInt (Fresh 0) wr (b11 + 1) 3 vs (growTo L ts f sk m) ∧ b11 + 1 ≤ wr.heap.size ∧ Below w.heap.size w wr) (fun i _ => j - (intOf i).toNat)
          case atStart => exact ⟨0, _, Nat.zero_le _, rfl, hboxA, hresA, hsA, hpA, by simpa [growTo] using hownA, hszA, hbA⟩
          case round =>
            clear hboxA hresA hsA hpA hbA hownA hszA
            obtain ⟨m, vs, hm1, rfl, hbox, hres, hs, hp, hown, hsz, hb⟩ := hrel
            obtain ⟨wo, rfl⟩ : ∃ wo : World, wo = wr := ⟨_, rfl⟩
            have t0 := hbox.c0
            have t1 := hbox.c1
            by_cases hlt : m < j
            · have hI : IntRows F wo (.slice (some ⟨b, o, none⟩) j c) L := Enc.below _ HR.out hb
              obtain ⟨b', o', a3, n3, c3, he, hcell, hrow, HE3, hm3⟩ := hI.at m hlt
              cases he
              have HI3 := Lib.hid hrow
              have HG1 := Lib.hid (growTo_succ L ts f sk m)
              have hglen := growTo_len L ts f sk m
              clear hI hrow
              have hj0 : (0 : Int) ≤ m := by omega
              have hj1 : (m : Int) < j := by omega
              have p1 := fun g => cell_plus t1 g
              have p2 := fun g => cell_plus hcell g
              have s0c := hs.c0
              have s1c := hs.c1
              have HLW := Lib.hid (fun (W : World) (hW : Below wo.heap.size wo W) => HLV.out W m _ (hb.trans (hW.mono hb.size)) (Enc.below _ HI3.out hW))
              have hcellL := fun g => HLW.out (plus wo g) (below_plus wo g)
              cases hl : leftL (L.getD m []) ts
              · simp only [hl] at hcellL
                have HG2 : Hid (growTo L ts f sk (m + 1) = growTo L ts f sk m) := by unfold Hid; rw [HG1.out, hl]; rfl
                clear hl HG1
                go_wp2
                refine wp_region_grow_lit (by kernel_rfl) (by kernel_rfl) ?_
                repeat (go_big_quiet_step ((go_at_call 22; exact Calls.grow_of ((hcellL _).mono fun _ _ ⟨he, hw⟩ => ⟨he, hw ▸ below0 _⟩))))
                refine wpQuiet_nil ?_
                intro _ hw1
                obtain ⟨gg, hw2⟩ := hw1
                subst hw2
                have hbp := below_plus wo gg
                clear p1 p2 hcellL
                go_wp2
                go_roundw
                case rel => exact ⟨m + 1, vs, by omega, by go_num, hbox.below hbp hbox.lt, hres.below hbp hres.lt, hs.below hbp hs.lt, hp.below hbp hp.lt, by rw [HG2.out]; exact hown.below hbp, Nat.le_trans hsz hbp.size, hb.trans (hbp.mono hb.size)⟩
                case measure => simp [intOf]; omega
              · simp only [hl] at hcellL
                by_cases hmf : m = f
                · have HG2 : Hid (growTo L ts f sk (m + 1) = growTo L ts f sk m ++ [(m : Int)]) := by unfold Hid; rw [HG1.out, hl, decide_eq_true hmf]; rfl
                  have hbe : ((m : Int) == (f : Int)) = true := by simp [hmf]
                  have HMF := Lib.hid hmf
                  clear hl HG1 hmf
                  go_wp2
                  refine wp_region_grow_lit (by kernel_rfl) (by kernel_rfl) ?_
                  repeat (go_big_quiet_step ((go_at_call 22; exact Calls.grow_of ((hcellL _).mono fun _ _ ⟨he, hw⟩ => ⟨he, hw ▸ below0 _⟩))))
                  refine wpQuiet_nil ?_
                  intro _ hw1
                  obtain ⟨gg, hw2⟩ := hw1
                  subst hw2
                  have hbp := below_plus wo gg
                  clear p1 p2 hcellL
                  have hp5 := hp.below hbp hp.lt
                  have hown5 := hown.below hbp
                  have hsz5 := Nat.le_trans hsz hbp.size
                  have v5 := hp5.at 2 (v := vs) rfl
                  have hb5 := hb.trans (hbp.mono hb.size)
                  have hbox5 := hbox.below hbp hbox.lt
                  have hres5 := hres.below hbp hres.lt
                  have hs5 := hs.below hbp hs.lt
                  generalize plus wo gg = w6 at *
                  go_wp2_with (at_builtin; go_must (refine wpList_push _ rfl _ _ 25 3 rfl eInt i0 (.int .i64 0) 8 Try.underlying25 hinf hz0 hz1 hz2 rfl (by decide) rfl hown5 (m : Int) [.int .i64 m] (World.eRep_int (by unfold I64; omega)) (oneInt _) rfl (by omega) (by decide) hsz5 ?_))
                  rintro v7 w7 hown7 hg7 ⟨g7, c7, rfl⟩
                  have hne : ∀ q, q ≤ b11 → some q ≠ vs.ownBlock := fun q hq e => by have := (hown5.lt e.symm).1; omega
                  have hp7 := hp5.grown hg7 (hne _ (Nat.le_refl _))
                  have v70 := hp7.at 2 (v := vs) rfl
                  have f70 := hp7.f 2
                  clear v5
                  go_wp2
                  go_roundw
                  case rel => exact ⟨m + 1, _, by omega, by go_num, (hbox5.grown hg7 (hne _ (by omega))).other _ (by simp; omega) _, (hres5.grown hg7 (hne _ (by omega))).other _ (by simp; omega) _, (hs5.grown hg7 (hne _ (by omega))).other _ (by simp; omega) _, hp7.set 2 _, by rw [HG2.out]; exact ownsSet hown7 (by simp) _, by have := hg7.size; simp [World.setCell]; omega, (hb5.grown hg7 hb5.size (fun g hg => by have := (hown5.lt hg).1; omega)).setCell (by simp; omega) _⟩
                  case measure => simp [intOf]; omega
                · have hbe : ((m : Int) == (f : Int)) = false := by simp; omega
                  have hmeet := fun W => ref16meet_c (litVars (restL (L.getD m []) ts)) sk W
                  unfold SV Gives at hmeet
                  have HRW := Lib.hid (fun (W : World) (hW : Below wo.heap.size wo W) => HRV.out W m _ (hb.trans (hW.mono hb.size)) hlt (Enc.below _ HI3.out hW))
                  have HLT2 := Lib.hid (fun (W : World) (hW : Below wo.heap.size wo W) => (show Calls Try.prog 22 #[.slice a3 n3 c3, u] W fun e w' => e = .returned (.bool true) ∧ W = w' from by have := HLW.out W hW; rw [hl] at this; exact this))
                  have HK := Lib.hid (show ∀ W W' : World, (Below wo.heap.size wo W ∧ W.cell? ⟨w.heap.size, 1, none⟩ = some (.slice (some ⟨b, o, none⟩) j c) ∧ W.cell? ⟨b, o + m, none⟩ = some (.slice a3 n3 c3) ∧ W.cell? ⟨b7, 0, none⟩ = some (WV (lo sk)) ∧ W.cell? ⟨b7, 1, none⟩ = some (WV (hi sk))) → Below W.heap.size W W' →
                    (Below wo.heap.size wo W' ∧ W'.cell? ⟨w.heap.size, 1, none⟩ = some (.slice (some ⟨b, o, none⟩) j c) ∧ W'.cell? ⟨b, o + m, none⟩ = some (.slice a3 n3 c3) ∧ W'.cell? ⟨b7, 0, none⟩ = some (WV (lo sk)) ∧ W'.cell? ⟨b7, 1, none⟩ = some (WV (hi sk))) from fun W W' h hB => by
                      obtain ⟨h1, h2, h3, h4, h5⟩ := h
                      exact ⟨h1.trans (hB.mono h1.size), (hB.cell (World.block_lt_of_cell? _ _ h2)).trans h2, (hB.cell (World.block_lt_of_cell? _ _ h3)).trans h3, (hB.cell (World.block_lt_of_cell? _ _ h4)).trans h4, (hB.cell (World.block_lt_of_cell? _ _ h5)).trans h5⟩)
                  have HK0 := Lib.hid (show Below wo.heap.size wo wo.drew ∧ wo.drew.cell? ⟨w.heap.size, 1, none⟩ = some (.slice (some ⟨b, o, none⟩) j c) ∧ wo.drew.cell? ⟨b, o + m, none⟩ = some (.slice a3 n3 c3) ∧ wo.drew.cell? ⟨b7, 0, none⟩ = some (WV (lo sk)) ∧ wo.drew.cell? ⟨b7, 1, none⟩ = some (WV (hi sk)) from ⟨(Below.refl _ _).drew, t1, hcell, s0c, s1c⟩)
                  cases hmt : meetB (litVars (restL (L.getD m []) ts)) sk
                  all_goals
                    have HG2 : Hid (growTo L ts f sk (m + 1) = if meetB (litVars (restL (L.getD m []) ts)) sk then growTo L ts f sk m ++ [(m : Int)] else growTo L ts f sk m) := by unfold Hid; rw [HG1.out, hl, decide_eq_false hmf]; rfl
                    rw [hmt] at HG2
                    simp only [hmt] at hmeet
                    clear hmt
                    go_wp2
                    go_region_held3 (fun w' => Below wo.heap.size wo w' ∧ w'.cell? ⟨w.heap.size, 1, none⟩ = some (.slice (some ⟨b, o, none⟩) j c) ∧ w'.cell? ⟨b, o + m, none⟩ = some (.slice a3 n3 c3) ∧ w'.cell? ⟨b7, 0, none⟩ = some (WV (lo sk)) ∧ w'.cell? ⟨b7, 1, none⟩ = some (WV (hi sk))) (first | exact HK0.out | exact HK.out _ _ (by assumption) (by assumption)) (first | (go_at_call 22; refine (HLT2.out _ (And.left ‹_›)).mono ?_; rintro e w' ⟨rfl, rfl⟩) | (go_at_call 40; refine (HRW.out _ (And.left ‹_›)).mono ?_; rintro e w' ⟨v9, rfl, hv9, hb9⟩) | (go_at_call 35; refine (HVV.out _ m _ _ (by omega) (by assumption)).mono ?_; rintro e w' ⟨rfl, hb9⟩) | (go_at_call 54; refine (hmeet _).mono ?_; rintro e w' ⟨rfl, hb9⟩))
                    obtain ⟨hbp, _, _, _, _⟩ := ‹Below wo.heap.size wo _ ∧ _›
                    clear p1 p2 hcellL s0c s1c
                  · go_wp2
                    go_roundw
                    case rel => exact ⟨m + 1, vs, by omega, by go_num, hbox.below hbp hbox.lt, hres.below hbp hres.lt, hs.below hbp hs.lt, hp.below hbp hp.lt, by rw [HG2.out]; exact hown.below hbp, Nat.le_trans hsz hbp.size, hb.trans (hbp.mono hb.size)⟩
                    case measure => simp [intOf]; omega
                  · skip
                    have hp5 := hp.below hbp hp.lt
                    have hown5 := hown.below hbp
                    have hsz5 := Nat.le_trans hsz hbp.size
                    have v5 := hp5.at 2 (v := vs) rfl
                    have hb5 := hb.trans (hbp.mono hb.size)
                    have hbox5 := hbox.below hbp hbox.lt
                    have hres5 := hres.below hbp hres.lt
                    have hs5 := hs.below hbp hs.lt
                    go_wp2_with (at_builtin; go_must (refine wpList_push _ rfl _ _ 25 3 rfl eInt i0 (.int .i64 0) 8 Try.underlying25 hinf hz0 hz1 hz2 rfl (by decide) rfl hown5 (m : Int) [.int .i64 m] (World.eRep_int (by unfold I64; omega)) (oneInt _) rfl (by omega) (by decide) hsz5 ?_))
                    rintro v7 w7 hown7 hg7 ⟨g7, c7, rfl⟩
                    have hne : ∀ q, q ≤ b11 → some q ≠ vs.ownBlock := fun q hq e => by have := (hown5.lt e.symm).1; omega
                    have hp7 := hp5.grown hg7 (hne _ (Nat.le_refl _))
                    have v70 := hp7.at 2 (v := vs) rfl
                    have f70 := hp7.f 2
                    clear v5
                    go_wp2
                    go_roundw
                    case rel => exact ⟨m + 1, _, by omega, by go_num, (hbox5.grown hg7 (hne _ (by omega))).other _ (by simp; omega) _, (hres5.grown hg7 (hne _ (by omega))).other _ (by simp; omega) _, (hs5.grown hg7 (hne _ (by omega))).other _ (by simp; omega) _, hp7.set 2 _, by rw [HG2.out]; exact ownsSet hown7 (by simp) _, by have := hg7.size; simp [World.setCell]; omega, (hb5.grown hg7 hb5.size (fun g hg => by have := (hown5.lt hg).1; omega)).setCell (by simp; omega) _⟩
                    case measure => simp [intOf]; omega
            · obtain rfl : m = j := by omega
              have p0 := hp.at 0 (v := WV (lo sk)) rfl
              have p1 := hp.at 1 (v := WV (hi sk)) rfl
              have p2 := hp.at 2 (v := vs) rfl
              have r0 := hres.at 0 (v := .int .u64 0) rfl
              have r1 := hres.at 1 (v := .int .u64 0) rfl
              have r2 := hres.at 2 (v := .slice none 0 0) rfl
              have rf0 := hres.f 0
              have rf1 := hres.f 1
              have rf2 := hres.f 2
              have hvs : ∃ g nn cc, vs = .slice g nn cc := by
                obtain ⟨raw, h1, _⟩ := hown
                rcases h1.2 with ⟨rfl, _⟩ | ⟨g, cap, cur, rfl, _⟩
                · exact ⟨_, _, _, rfl⟩
                · exact ⟨_, _, _, rfl⟩
              have hII := hown.ints (by have := growTo_len L ts f sk m; have := HE.out; unfold LenMax; omega)
              have HII := Lib.hid hII
              have q := ((hres.set 0 (WV (lo sk))).set 1 (WV (hi sk))).set 2 vs
              have q0 := q.at 0 (v := WV (lo sk)) rfl
              have q1 := q.at 1 (v := WV (hi sk)) rfl
              have q2 := q.at 2 (v := vs) rfl
              obtain ⟨g, nn, cc, rfl⟩ := hvs
              have HRI := Lib.hid (show growIdx L ts f sk = growTo L ts f sk m by rw [HE.out]; rfl)
              clear hII q
              go_wp2
              refine bodyPost_ret (v := .agg #[WV (lo sk), WV (hi sk), .slice g nn cc]) (by simp [results, Try.results36, go_sem, q0, q1, q2]) rfl ⟨_, by rw [HF.out], ?_, ((hb.setCell (by simp) _).setCell (by simp) _).setCell (by simp) _⟩
              rw [HF.out, HRI.out]
              have hne : ∀ q e fz, Fresh (b11 + 1) q e fz → q ≠ w.heap.size + 1 := fun q e fz h => by have := h.1; omega
              exact Enc.weak _ (Enc.setOther _ (Enc.setOther _ (Enc.setOther _ HII.out _ hne) _ hne) _ hne) (fun q e fz _ h => ⟨by have := h.1; omega, h.2⟩)
        · simp only [decide_eq_false hfix] at heq
          have HF := Lib.hid hfix
          clear hfix
          have f70 := hs.f 0
          have f71 := hs.f 1
          have HCA := Lib.hid (show k + 1 ≤ card (growIter L ts s0 (k + 1)) by
            rw [HGI.out]
            have h1 := card_lt (growRound_sub ts L sk) (fun e => HF.out e.symm)
            have h2 := hcard.out
            omega)
          have hcle := card_le (growIter L ts s0 (k + 1))
          have hk128 : k + 1 ≤ 128 := by have := HCA.out; omega
          have hs7 := hs.set (WV (lo (growRound L ts sk))) (WV (hi (growRound L ts sk)))
          have hne7 : b7 ≠ w.heap.size := by omega
          clear hcle
          go_wp2
          go_roundg (129 - (k + 1))
          case measure => omega
          case rel => exact ⟨k + 1, by omega, HCA.out, (hbox.other _ (by simp; omega) _).other _ (by simp; omega) _, (hres.other _ (by simp; omega) _).other _ (by simp; omega) _, by rw [HGI.out]; exact hs7, (hb.setCell (by simp; omega) _).setCell (by simp; omega) _⟩
end Go.Proofs.Ytekeidhndlnghaa
