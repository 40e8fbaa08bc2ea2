/- What Verify computes of the chapter's other examples, as exact rows; no condition. -/
import Derived.Test.YtllkogdgmmcfgaaDoorVvG
import Derived.Test.YtllkogdgmmcfgaaDoorBt
namespace Go.Proofs.YtllkogdgmmcfgaaDoor
set_option linter.unusedVariables false
set_option linter.unusedSimpArgs false
set_option linter.unusedSectionVars false
open Go.RowKit
set_option maxRecDepth 100000
/-! ### The plain values -/
def kn1 : List Nd := [(2, 1, []), (2, -1, []), (2, 2, []), (2, 3, []), (3, 0, [0, 2]), (3, 0, [1, 2]), (4, 0, [4, 5])]
def kn2 : List Nd := [(1, 0, []), (2, 1, []), (2, -1, []), (2, 2, []), (2, 3, []), (3, 0, [1, 4]), (3, 0, [2, 3]), (4, 0, [5, 6])]
theorem kside_and {ns : List Nd} {cl : List Cl} {R : List (List Int)} {i l : Int} {k : Nat} {G : List (List Int)} (hk : kindN ns i = 3) (hf : (inN ns i).findIdx? (litI ns l) = some k) (hG : gvV R l = G) : sideV 3 exL ns cl R i l = fitV 3 exL ns cl G (cutI (inN ns i) k) := by
 unfold sideV
 rw [if_neg (by rw [hk]; decide), if_pos hk, hf, hG]
theorem kside_no {ns : List Nd} {cl : List Cl} {R : List (List Int)} {i l : Int} (hk : kindN ns i = 3) (hf : (inN ns i).findIdx? (litI ns l) = none) : sideV 3 exL ns cl R i l = false := by
 unfold sideV
 rw [if_neg (by rw [hk]; decide), if_pos hk, hf]
theorem kfit_no {ns : List Nd} {cl : List Cl} {G : List (List Int)} {i : Int} (h1 : fit1 ns 1 G [i] = (G, [i])) (h2 : kindN ns i = 2) : fitV 3 exL ns cl G [i] = false := by
 have e2 : fit2 3 exL ns cl [i] 0#128 [] = none := by
  rw [fit2]
  cases rsV exL 3 (clN cl i) with
  | none => rfl
  | some x => simp only; rw [if_pos h2]
 unfold fitV
 rw [show ([i] : List Int).length = 1 from rfl, h1]
 simp only [e2]
theorem kgv2 : gvV [[-1, 3], [1, 2]] 2 = [[-1, 3]] := gvE (N := 3) rfl (by decide +kernel) (by decide +kernel)
theorem k_lt1 : ∀ i, i < 6 → nedB kn1 i = false ∧ knwB kn1 i = true := by decide +kernel
theorem k_v1 : verV 3 exL 3 kn1 (exC [0, 1]) = (6, 230) := by
 unfold verV
 rw [if_pos ⟨by decide +kernel, by decide +kernel, rfl, rfl⟩]
 have e : List.range kn1.length = [0, 1, 2, 3, 4, 5, 6] := by decide
 have hb : ∀ i, i < 6 → badV 3 exL kn1 (exC [0, 1]) i = false := fun i h => by
  unfold badV
  rw [if_neg (by rw [(k_lt1 i h).1]; decide), (k_lt1 i h).2]; rfl
 have h6 : badV 3 exL kn1 (exC [0, 1]) 6 = true := by
  unfold badV
  rw [if_pos (by decide +kernel), show clN (exC [0, 1]) ((6 : Nat) : Int) = ([], [0, 1]) from rfl, ex_rs _ (by decide +kernel), ex_r1]
  have ha : acptV 3 exL kn1 (exC [0, 1]) ((6 : Nat) : Int) [[-1, 3], [1, 2]] = false := by
   have e : listS (varsT [[-1, 3], [1, 2]]) = [1, 2, 3] := by decide +kernel
   unfold acptV
   rw [e, if_neg (by decide), if_neg (by decide), if_neg (by decide), if_neg (by decide), if_neg (by decide)]
   have h1 : sideV 3 exL kn1 (exC [0, 1]) [[-1, 3], [1, 2]] 4 1 = false := (kside_and (k := 0) (by decide) (by decide) ex_g1).trans (kfit_no (by decide +kernel) (by decide))
   have h2 : sideV 3 exL kn1 (exC [0, 1]) [[-1, 3], [1, 2]] 4 (-1) = false := kside_no (by decide) (by decide)
   have h3 : sideV 3 exL kn1 (exC [0, 1]) [[-1, 3], [1, 2]] 4 2 = false := (kside_and (k := 1) (by decide) (by decide) kgv2).trans (kfit_no (by decide +kernel) (by decide))
   have h4 : sideV 3 exL kn1 (exC [0, 1]) [[-1, 3], [1, 2]] 4 (-2) = false := kside_no (by decide) (by decide)
   have h5 : sideV 3 exL kn1 (exC [0, 1]) [[-1, 3], [1, 2]] 4 3 = false := kside_no (by decide) (by decide)
   have h6 : sideV 3 exL kn1 (exC [0, 1]) [[-1, 3], [1, 2]] 4 (-3) = false := kside_no (by decide) (by decide)
   show (((sideV 3 exL kn1 (exC [0, 1]) [[-1, 3], [1, 2]] 4 1 && _) || ((sideV 3 exL kn1 (exC [0, 1]) [[-1, 3], [1, 2]] 4 (-1) && _) || false)) || (((sideV 3 exL kn1 (exC [0, 1]) [[-1, 3], [1, 2]] 4 2 && _) || ((sideV 3 exL kn1 (exC [0, 1]) [[-1, 3], [1, 2]] 4 (-2) && _) || false)) || (((sideV 3 exL kn1 (exC [0, 1]) [[-1, 3], [1, 2]] 4 3 && _) || ((sideV 3 exL kn1 (exC [0, 1]) [[-1, 3], [1, 2]] 4 (-3) && _) || false)) || false))) = false
   rw [h1, h2, h3, h4, h5, h6]; rfl
  show ((!acptV 3 exL kn1 (exC [0, 1]) ((6 : Nat) : Int) [[-1, 3], [1, 2]] || _)) = true
  rw [ha]; rfl
 rw [e]
 simp only [List.find?_cons, hb 0 (by decide), hb 1 (by decide), hb 2 (by decide), hb 3 (by decide), hb 4 (by decide), hb 5 (by decide), h6]
 rfl
theorem k_v2 : verV 3 exL 3 kn2 (([], []) :: exC [0, 1]) = (0, 230) := by
 unfold verV
 rw [if_pos ⟨by decide +kernel, by decide +kernel, rfl, rfl⟩]
 have e : List.range kn2.length = [0, 1, 2, 3, 4, 5, 6, 7] := by decide
 have h0 : badV 3 exL kn2 (([], []) :: exC [0, 1]) 0 = true := by
  unfold badV
  rw [if_neg (by decide +kernel), show knwB kn2 0 = false by decide +kernel]; rfl
 rw [e, List.find?_cons, h0]
 rfl
theorem k_v3 : verV 3 exL 3 exN [] = (0, 1) := by
 unfold verV
 rw [if_neg (fun h => absurd h.2.2.2 (by decide))]
theorem k_v4 : verV 4 exL 3 exN (exC [0, 1]) = (0, 1) := by
 unfold verV
 rw [if_neg (fun h => absurd h.2.2.1 (by decide))]
/-! ### The rows -/
def nd (k l : Int) (a : AV) : List AV := [.v (.int .i64 k), .v (.int .i64 l), a]
def nl : AV := .v (.slice none 0 0)
def i2 (a b : Int) : AV := .sl 1 [[.v (.int .i64 a)], [.v (.int .i64 b)]]
def vn0 : List (List AV) := [nd 2 1 nl, nd 2 (-1) nl, nd 2 2 nl, nd 2 3 nl, nd 3 0 (i2 0 3), nd 3 0 (i2 1 2), nd 4 0 (i2 4 5)]
def vn1 : List (List AV) := [nd 2 1 nl, nd 2 (-1) nl, nd 2 2 nl, nd 2 3 nl, nd 3 0 (i2 0 2), nd 3 0 (i2 1 2), nd 4 0 (i2 4 5)]
def vn2 : List (List AV) := [nd 1 0 nl, nd 2 1 nl, nd 2 (-1) nl, nd 2 2 nl, nd 2 3 nl, nd 3 0 (i2 1 4), nd 3 0 (i2 2 3), nd 4 0 (i2 5 6)]
def vL (N : Int) : AV := .agg [.v (.int .i64 N), .sl 1 [[i2 1 2], [i2 (-1) 3]]]
def vN (l : List (List AV)) : AV := .agg [.v (.int .i64 3), .sl 3 l]
def vC : List (List AV) := [[nl, nl], [nl, nl], [nl, nl], [nl, nl], [nl, nl], [nl, nl], [nl, i2 0 1]]
def vr (a b : Int) : AV := .tup [.v (.int .i64 a), .v (.int .i64 b)]
def kRows : List Row := [⟨5, [vL 3, vN vn1, .sl 2 vC], vr 6 230⟩, ⟨5, [vL 3, vN vn2, .sl 2 ([nl, nl] :: vC)], vr 0 230⟩, ⟨5, [vL 3, vN vn0, nl], vr 0 1⟩, ⟨5, [vL 4, vN vn0, .sl 2 vC], vr 0 1⟩, ⟨6, [], .v (.bool true)⟩]
theorem ver_row {N M : Int} {L : List (List Int)} {ns : List Nd} {cl : List Cl} {args : List AV} {a b : Int} (h : g_vVerify args = some (.tup [.v (.int .i64 (verV N L M ns cl).1), .v (.int .i64 (verV N L M ns cl).2)], false)) (hv : verV N L M ns cl = (a, b)) : RowOk Tryd.prog ⟨5, args, vr a b⟩ := by
 refine ⟨e_vVerify.1, ?_⟩
 have := (e_vVerify.2 _ _ _ h).1
 rw [hv] at this
 exact this
theorem kRows_ok : ∀ r ∈ kRows, RowOk Tryd.prog r := fun r hr => by
 unfold kRows at hr
 simp only [List.mem_cons, List.not_mem_nil, or_false] at hr
 rcases hr with rfl | rfl | rfl | rfl | rfl
 ·exact ver_row (N := 3) (M := 3) (L := exL) (ns := kn1) (cl := exC [0, 1]) rfl k_v1
 ·exact ver_row (N := 3) (M := 3) (L := exL) (ns := kn2) (cl := ([], []) :: exC [0, 1]) rfl k_v2
 ·exact ver_row (N := 3) (M := 3) (L := exL) (ns := exN) (cl := []) rfl k_v3
 ·exact ver_row (N := 4) (M := 3) (L := exL) (ns := exN) (cl := exC [0, 1]) rfl k_v4
 ·exact ⟨by kernel_rfl, works_p⟩
theorem verifyKnown_p : FnPure Tryd.prog 3 [] (.v (.bool true)) :=
 fn_run prog_mixed TT_ok (tabR_ok kRows_ok) (T := funR kRows) (n := 3000) (by kernel_rfl)
end Go.Proofs.YtllkogdgmmcfgaaDoor
