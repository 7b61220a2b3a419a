/-
  Several texts in one: FrIn.
-/
import Derived.Test.YtibiankbmhdljabGreatDoorPkFeed
set_option linter.all false
set_option maxHeartbeats 16000000
set_option maxRecDepth 100000
namespace Go.Proofs.YtibiankbmhdljabGreatDoor
open Go.Proofs.Tryz
open Go.RowKit Go.ChangeShapes Go.WideShapes Go.Deep
structure FrI where
 v : Int
 k : Int
 pl : ByteArray
def rowFI (x : FrI) : List Value := [.int .i64 x.v, .int .i64 x.k, .string x.pl]
def datFI {H : Type} (x : FrI) : DataW H := .agg [.lit (.int .i64 x.v), .lit (.int .i64 x.k), .lit (.string x.pl.data.toList)]
def okFI (x : FrI) : Prop := (-9223372036854775808 <= x.v ∧ x.v <= 9223372036854775807) ∧ (-9223372036854775808 <= x.k ∧ x.k <= 9223372036854775807)
theorem elem_FI {H : Type} {enc : TypeId × Value -> H} {w : World} {base : Nat} {spare : Nat -> Bool} {held : Bool} (n : Nat) (cs : List Value) (d : DataW H) (pl : List MemPlace) (hl : cs.length = 3)
  (h : DataW.trod enc prog w base spare held n 44 cs = some (d, pl)) : ∃ x : FrI, cs = rowFI x ∧ d = datFI x ∧ okFI x := by
 obtain ⟨ys, n', hd, hyl, hf⟩ := uz7 underlying44 (by kernel_rfl) hl h
 obtain ⟨v0, y0, h0, g0, t0⟩ := hf 0 _ rfl
 obtain ⟨v1, y1, h1, g1, t1⟩ := hf 1 _ rfl
 obtain ⟨v2, y2, h2, g2, t2⟩ := hf 2 _ rfl
 obtain ⟨a, e0, rfl, wa⟩ := DataW.trod_int underlying3 t0
 obtain ⟨b, e1, rfl, wb⟩ := DataW.trod_int underlying3 t1
 obtain ⟨s, e2, rfl, ws⟩ := DataW.trod_string underlying9 t2
 simp at e0 e1 e2; subst e0 e1 e2
 match cs, hl, h0, h1, h2 with
 | [c0, c1, c2], _, h0, h1, h2 =>
  simp at h0 h1 h2; subst h0 h1 h2
  match ys, hyl, g0, g1, g2 with
  | [z0, z1, z2], _, g0, g1, g2 =>
   simp at g0 g1 g2; subst g0 g1 g2
   have ba := bounds_i64 wa
   have bb := bounds_i64 wb
   exact ⟨⟨a, b, s⟩, rfl, by rw [hd]; rfl, ⟨ba.1, ba.2⟩, bb.1, bb.2⟩
def frOf (x : FrI) : Option Fr := if goodF x.v x.k ∧ x.pl.size <= 6000 then some ⟨x.v.toNat, x.k.toNat, x.pl.data.toList⟩ else none
def goods (l : List FrI) : List Fr := l.filterMap frOf
theorem vxj (l : List FrI) : ∀ x ∈ goods l, ux7 x := by
 intro x hx
 obtain ⟨y, _, hy⟩ := List.mem_filterMap.1 hx
 unfold frOf at hy
 split at hy
 ·rename_i h
  injection hy with hy
  subst hy
  obtain ⟨⟨h1, h2, h3, h4⟩, h5⟩ := h
  exact ⟨⟨by show 1 <= y.v.toNat; omega, by show y.v.toNat <= 3; omega⟩, ⟨by show 1 <= y.k.toNat; omega, by show y.k.toNat <= 4; omega⟩, by simpa using h5⟩
 ·cases hy
theorem wvt (l : List FrI) (k : Nat) (x : FrI) (h : l[k]? = some x) : goods (l.take (k + 1)) = goods (l.take k) ++ (frOf x).toList := by
 rw [List.take_add_one, h, Option.toList_some]
 simp only [goods, List.filterMap_append]
 cases hx : frOf x <;> simp [List.filterMap, hx]
section
variable {w : World} {ops : Array Oper} {rest : List Oper} {o : Oper} {a : Act} {Q : Exit -> Act -> World -> Prop}
end
theorem frames_sized {H : Type} {ts : List TypeId} {ds : List (DataW H)} (hsz : (DataW.weightsEach prog ts ds).all (· <= reachBytes) = true) {j : Nat} (ht : ts[j]? = some 40) {l : List FrI} {p : Option Addr} {c : Nat} {d : DataW H}
  (hd : (l = [] ∧ p = none ∧ c = 0 ∧ d = .nil) ∨ ∃ rest : List FrI, d = .slice (l.map datFI) (rest.map datFI)) (hdj : ds[j]? = some d) : l.length <= 4398046511103 ∧ ∀ x ∈ l, x.pl.size <= 140737488351232 := by
 rcases hd with ⟨rfl, _⟩ | ⟨rest, rfl⟩
 ·exact ⟨by simp, by simp⟩
 ·have hb : prog.bytesOf 44 = 32 := by kernel_rfl
  have hm : ∀ n ∈ DataW.weights prog 40 (.slice (l.map datFI) (rest.map datFI) : DataW H), n <= reachBytes := fun n hn =>
   of_decide_eq_true (List.all_eq_true.1 hsz _ (DataW.weights_mem_each (P := prog) ht hdj n hn))
  simp only [DataW.weights, underlying40, hb] at hm
  have hr : reachBytes = 140737488351232 := rfl
  refine ⟨?_, fun x hx => ?_⟩
  ·have := hm _ (by simp; left; rfl)
   rw [hr] at this
   omega
  ·have hx2 : (datFI x : DataW H) ∈ l.map datFI := List.mem_map_of_mem hx
   have := hm x.pl.data.toList.length (List.mem_cons_of_mem _ (List.mem_append_left _ (vqh hx2 _ (by simp [datFI, DataW.weights, underlying44, DataW.weightsEach]))))
   rw [hr] at this
   simpa using this
end Go.Proofs.YtibiankbmhdljabGreatDoor
