/-
  Several texts in one: DfnL, Dfo, WithW.
-/
import Derived.Test.YtaioadbenigdpaaGreatDoorPkSvA
import Derived.Test.YtaioadbenigdpaaGreatDoorPkDelA
import Derived.Test.YtaioadbenigdpaaGreatDoorPkPutL
import Derived.Test.YtaioadbenigdpaaGreatDoorPkHeld
import Derived.IntWalk
import Derived.BigQuiet
set_option linter.unusedVariables false
set_option linter.unusedSimpArgs false
set_option maxHeartbeats 16000000
set_option maxRecDepth 100000
namespace Go.Proofs.YtaioadbenigdpaaGreatDoor
open Go.RowKit
structure FnOkG {α : Type} (P : Program) (w : World) (g : Nat) (K : FuncId) (caps : Array Value) (row : α → List Value) (f : α → Bool) (l : List α) : Prop where
 enter : ∀ (args : Array Value) (W : World), (callFunc K args).run P W = .ok (.enter K args) W
 calls : ∀ x ∈ l, ∀ W, GrB w g W → Calls P K (#[.agg (row x).toArray] ++ caps) W fun e W' => e = .returned (.bool (f x)) ∧ Below W.heap.size W W'
theorem GrB.of_below {w W : World} (g : Nat) (h : Below w.heap.size w W) : GrB w g W := ⟨h.os, h.tape, h.output, h.size, fun k hk _ => h.block k hk⟩
theorem FnOkG.fn {α : Type} {P : Program} {w : World} {g : Nat} {K : FuncId} {caps : Array Value} {row : α → List Value} {f : α → Bool} {l : List α} (h : FnOkG P w g K caps row f l) : FnOk P w K caps row f l :=
 ⟨h.enter, fun x hx W hW => h.calls x hx W (GrB.of_below g hW)⟩
theorem pIx_none {α : Type} {f : α → Bool} : ∀ {l : List α} {i : Nat}, pIx f l i = -1 → ∀ x ∈ l, f x = false
 | [], _, _, x, hx => by cases hx
 | y :: r, i, h, x, hx => by
  rw [pIx_cons] at h
  cases hy : f y
  ·rw [hy, if_neg (by simp)] at h
   rcases List.mem_cons.1 hx with rfl | hx
   ·exact hy
   ·exact pIx_none h x hx
  ·rw [hy, if_pos rfl] at h; omega
theorem pIx_at {α : Type} {f : α → Bool} : ∀ {l : List α} {i : Nat}, pIx f l i ≠ -1 → ∃ k, k < l.length ∧ pIx f l i = ((i + k : Nat) : Int) ∧ (∃ x, l[k]? = some x ∧ f x = true) ∧ ∀ x ∈ l.take k, f x = false
 | [], _, h => absurd rfl h
 | y :: r, i, h => by
  rw [pIx_cons] at h ⊢
  cases hy : f y
  ·rw [hy, if_neg (by simp)] at h
   rw [if_neg (by simp)]
   obtain ⟨k, h1, h2, h3, h4⟩ := pIx_at h
   refine ⟨k + 1, by simpa using h1, by rw [h2]; congr 1; omega, by simpa using h3, fun x hx => ?_⟩
   rw [List.take_succ_cons] at hx
   rcases List.mem_cons.1 hx with rfl | hx
   ·exact hy
   ·exact h4 x hx
  ·rw [if_pos rfl]
   exact ⟨0, by simp, by simp, ⟨y, rfl, hy⟩, fun x hx => by simp at hx⟩
theorem keep_succ {α : Type} {f : α → Bool} {l : List α} {k : Nat} {x : α} (h : l[k]? = some x) : (l.take (k + 1)).filter (fun x => !f x) = (l.take k).filter (fun x => !f x) ++ (if f x = true then [] else [x]) := by
 rw [List.take_add_one, h, Option.toList_some, List.filter_append, List.filter_cons, List.filter_nil]
 cases f x <;> rfl
def DfAt (w : World) (l : List LeaseD) (f : LeaseD → Bool) (rest : List Value) (g i j : Nat) (wr : World) : Prop :=
 ∃ X : List Value, wr.heap[g]? = some (.cells (((((l.take j).filter fun x => !f x).map rowL).flatten) ++ X ++ (((l.drop j).map rowL).flatten ++ rest)).toArray 37 (0, 0)) ∧
  i = ((l.take j).filter fun x => !f x).length ∧ i < j ∧ j ≤ l.length ∧ X.length = (j - i) * 3 ∧ GrB w g wr
theorem deleteFL_some (K : FuncId) (caps : Array Value) (f : LeaseD → Bool) (l : List LeaseD) (base g c i0 : Nat) (rest : List Value) (w : World) (hbg : base ≤ g) (hg : w.heap[g]? = some (.cells ((l.map rowL).flatten ++ rest).toArray 37 (0, 0))) (hlen : ((l.map rowL).flatten ++ rest).length = c * 3) (hlc : l.length ≤ c) (hcm : c ≤ maxLen) (hl : l.length ≤ 1000)
  (hi : i0 < l.length) (hix : pIx f l 0 = (i0 : Int)) (hfx : ∃ x, l[i0]? = some x ∧ f x = true) (hnx : ∀ x ∈ l.take i0, f x = false) (hel : Elts w w.heap.size 3 (some ⟨g, 0, none⟩) (l.map rowL)) (hf : FnOkG Tryz.prog w g K caps rowL f l) :
  Calls Tryz.prog 83 #[.slice (some ⟨g, 0, none⟩) l.length c, .func (.func K) #[] caps] w fun e w' =>
   e = .returned (.slice (some ⟨g, 0, none⟩) (l.filter fun x => !f x).length c) ∧ OwnR w' base 37 3 (some ⟨g, 0, none⟩) c ((l.filter fun x => !f x).map rowL) ∧ w.grownBy w' (some g) := by
 have hgl : g < w.heap.size := (Array.getElem?_eq_some_iff.1 hg).1
 have hIX := indexFL_any K caps f (some ⟨g, 0, none⟩) c l w hel (by omega) hf.fn
 rw [hix] at hIX
 have HIX := Lib.hid hIX
 have HF := Lib.hid hf.calls
 have hen := hf.enter
 have hzd := zeroL_lit
 obtain ⟨x0, hx0, hfx0⟩ := hfx
 have hk0 : (l.take (i0 + 1)).filter (fun x => !f x) = l.take i0 := by
  rw [keep_succ hx0, hfx0, if_pos rfl, List.append_nil, List.filter_eq_self]
  intro x hx; rw [hnx x hx]; rfl
 have hstart : ∀ W, Below w.heap.size w W → DfAt w l f rest g i0 (i0 + 1) W := fun W hW => by
  refine ⟨rowL x0, ?_, ?_, by omega, by omega, by rw [show i0 + 1 - i0 = 1 by omega]; rfl, GrB.of_below g hW⟩
  ·rw [hW.block g hgl, hg, hk0]
   have hA : l = l.take i0 ++ x0 :: l.drop (i0 + 1) := by
    obtain ⟨h1, h2⟩ := List.getElem?_eq_some_iff.1 hx0
    rw [← h2, ← List.drop_eq_getElem_cons h1, List.take_append_drop]
   conv => lhs; rw [hA]
   simp
  ·rw [hk0, List.length_take]; omega
 have HST := Lib.hid hstart
 have hne1 : ((i0 : Int) == -1) = false := by rw [beq_eq_false_iff_ne]; omega
 have hw1 : IntKind.i64.wrap ((i0 : Int) + 1) = (i0 : Int) + 1 := IntWalk.i64_in _ (by omega)
 clear hIX hf hix hx0 hfx0 hk0 hnx hstart hel hg
 go_enter Tryz.func83, Tryz.ntmps83
 go_wp2_with fail
 refine HIX.out.mono ?_
 rintro e w1 ⟨rfl, hb1⟩
 have hD1 := Lib.hid (HST.out w1 hb1)
 clear hb1 HST
 go_wp2_with fail
 go_loopw [5, 6] (fun vi vj wr => ∃ i j : Nat, vi = .int .i64 i ∧ vj = .int .i64 j ∧ Hid (DfAt w l f rest g i j wr)) (fun _ vj _ => l.length - (intOf vj).toNat)
 case atStart => exact ⟨i0, i0 + 1, rfl, by go_num, hD1⟩
 case round =>
  clear hD1 hne1 hw1 hi
  obtain ⟨i, j, rfl, rfl, HD⟩ := hrel
  obtain ⟨X, hgr, hieq, hij, hjl, hX, hG⟩ := HD.out
  clear HD
  have hKf : ((((l.take j).filter fun x => !f x).map rowL).flatten).length = i * 3 := by rw [flat_len (map_rowL_len _), List.length_map, ← hieq]
  by_cases hlt : j < l.length
  ·have hx : l[j]? = some l[j] := List.getElem?_eq_getElem hlt
   have hcall := HF.out l[j] (List.getElem_mem hlt)
   have hdr : l.drop j = l[j] :: l.drop (j + 1) := List.drop_eq_getElem_cons hlt
   have hks := keep_succ (f := f) hx
   generalize l[j] = x at *
   have hgr1 : wr.heap[g]? = some (.cells ((((((l.take j).filter fun x => !f x).map rowL).flatten) ++ X) ++ rowL x ++ (((l.drop (j + 1)).map rowL).flatten ++ rest)).toArray 37 (0, 0)) := by rw [hgr, hdr]; simp
   have hsum : i * 3 + (j - i) * 3 = j * 3 := by omega
   have hat : At wr ((⟨g, 0, none⟩ : Addr).add (j * 3)) (rowL x) := by
    rw [Addr.add_lit, Nat.zero_add]
    exact fun n u hu => cells_mid hgr1 (j * 3) (by rw [List.length_append, hKf, hX]; omega) n u hu
   have hat2 : At wr ⟨g, j * 3, none⟩ (rowL x) := by rwa [Addr.add_lit, Nat.zero_add] at hat
   have bx := Blk.new wr 37 #[.string x.job, .string x.node, .int .i64 x.till]
   have hb5 : Below wr.heap.size wr (wr.alloc (.cells #[.string x.job, .string x.node, .int .i64 x.till] 37)) := (Below.refl _ _).alloc (Nat.le_refl _) _
   have hG5 := hG.more hb5
   have hC := Lib.hid (hcall _ hG5)
   have y0 : (0 : Int) ≤ (j : Int) := by omega
   have y1 : (j : Int) < (l.length : Int) := by omega
   have hgw : g < wr.heap.size := (Array.getElem?_eq_some_iff.1 hgr).1
   have hgr5 : (wr.alloc (.cells #[.string x.job, .string x.node, .int .i64 x.till] 37)).heap[g]? = _ := (hb5.block g hgw).trans hgr1
   clear hx hcall hgr hgr1 hG hat hb5
   cases hfx : f x
   ·rw [hfx] at hC hks
    rw [if_neg (by simp)] at hks
    obtain ⟨h1, X2, hXX, hh1⟩ := part_len X 3 (by omega)
    have HKS := Lib.hid hks
    have HSTEP : Hid (∀ W : World, W.heap[g]? = some (.cells (((((l.take j).filter fun x => !f x).map rowL).flatten) ++ rowL x ++ (X2 ++ (rowL x ++ (((l.drop (j + 1)).map rowL).flatten ++ rest)))).toArray 37 (0, 0)) → GrB w g W → DfAt w l f rest g (i + 1) (j + 1) W) := show ∀ W : World, _ from fun W hW hGW => by
     refine ⟨X2 ++ rowL x, ?_, ?_, by omega, by omega, ?_, hGW⟩
     ·rw [hW, hks]; simp
     ·rw [hks, List.length_append, ← hieq]; rfl
     ·have hl1 := congrArg List.length hXX
      rw [List.length_append, hh1, hX] at hl1
      have hl2 : (rowL x).length = 3 := rfl
      rw [List.length_append, hl2]; omega
    have hgr6 : (wr.alloc (.cells #[.string x.job, .string x.node, .int .i64 x.till] 37)).heap[g]? = some (.cells (((((l.take j).filter fun x => !f x).map rowL).flatten) ++ h1 ++ (X2 ++ (rowL x ++ (((l.drop (j + 1)).map rowL).flatten ++ rest)))).toArray 37 (0, 0)) := by rw [hgr5, hXX]; simp
    have y2 : (0 : Int) ≤ (i : Int) := by omega
    have y3 : (i : Int) < (l.length : Int) := by omega
    have hw2 : IntKind.i64.wrap ((i : Int) + 1) = (i : Int) + 1 := IntWalk.i64_in _ (by omega)
    have hw3 : IntKind.i64.wrap ((j : Int) + 1) = (j : Int) + 1 := IntWalk.i64_in _ (by omega)
    generalize ((((l.take j).filter fun x => !f x).map rowL).flatten) = KF at *
    generalize X2 ++ (rowL x ++ (((l.drop (j + 1)).map rowL).flatten ++ rest)) = RF at *
    obtain ⟨CS, hCS⟩ : ∃ CS : Array Value, (KF ++ rowL x ++ RF).toArray = CS := ⟨_, rfl⟩
    rw [hCS] at HSTEP
    have HCS := Lib.hid hCS
    have HK := Lib.hid hKf
    have HH := Lib.hid hh1
    clear hks hgr5 hXX hX hsum hCS hKf hh1 hieq hdr
    go_wp2_with (first | (refine wpList_load_at rfl _ _ rfl ⟨g, j * 3, none⟩ rfl [Value.string x.job, Value.string x.node, Value.int .i64 x.till] _ hat2 Tryz.underlying37 rfl lease_size ?_) | (refine wpList_store_new rfl _ _ _ rfl rfl 37 _ #[.string x.job, .string x.node, .int .i64 x.till] rfl lease_size rfl rfl ?_) | (refine wpList_load_blk rfl _ _ rfl wr.heap.size rfl _ _ bx _ Tryz.underlying37 rfl lease_size ?_))
    refine hC.out.mono ?_
    rintro e w6 ⟨rfl, hb6⟩
    have bx6 := bx.below hb6 bx.lt
    have hG6 := hG5.more hb6
    have hgr7 := (hb6.block g (Nat.lt_of_lt_of_le hgw (by simp))).trans hgr6
    have HGR := Lib.hid hgr7
    clear hat2 bx hb6 hG5 hgr6 hgr7 hC
    go_wp2_with (first | (refine wpList_load_blk rfl _ _ rfl wr.heap.size rfl _ _ bx6 _ Tryz.underlying37 rfl lease_size ?_) | (refine wpList_store_mid rfl _ _ _ rfl (i * 3) rfl (vs := rowL x) rfl HGR.out HK.out.symm HH.out.symm lease_size (by intro u hu; simp [rowL] at hu; rcases hu with rfl | rfl | rfl <;> rfl) CS HCS.out ?_))
    go_roundw
    case rel => exact ⟨i + 1, j + 1, by go_num, by go_num, HSTEP.out _ (by rw [← HCS.out]; exact setRow_at HGR.out) (hG6.row _)⟩
    case measure => simp [intOf]; omega
   ·rw [hfx] at hC hks
    rw [if_pos rfl, List.append_nil] at hks
    have HSTEP : Hid (∀ W : World, Below (wr.alloc (.cells #[.string x.job, .string x.node, .int .i64 x.till] 37)).heap.size (wr.alloc (.cells #[.string x.job, .string x.node, .int .i64 x.till] 37)) W → DfAt w l f rest g i (j + 1) W) := show ∀ W : World, _ from fun W hW => by
     refine ⟨X ++ rowL x, ?_, ?_, by omega, by omega, ?_, hG5.more hW⟩
     ·rw [hW.block g (Nat.lt_of_lt_of_le hgw (by simp)), hgr5, hks]; simp
     ·rw [hks]; exact hieq
     ·have hl2 : (rowL x).length = 3 := rfl
      rw [List.length_append, hX, hl2]; omega
    have hw3 : IntKind.i64.wrap ((j : Int) + 1) = (j : Int) + 1 := IntWalk.i64_in _ (by omega)
    clear hks hgr5 hX hsum hKf hieq hdr hG5
    go_wp2_with (first | (refine wpList_load_at rfl _ _ rfl ⟨g, j * 3, none⟩ rfl [Value.string x.job, Value.string x.node, Value.int .i64 x.till] _ hat2 Tryz.underlying37 rfl lease_size ?_) | (refine wpList_store_new rfl _ _ _ rfl rfl 37 _ #[.string x.job, .string x.node, .int .i64 x.till] rfl lease_size rfl rfl ?_) | (refine wpList_load_blk rfl _ _ rfl wr.heap.size rfl _ _ bx _ Tryz.underlying37 rfl lease_size ?_))
    refine hC.out.mono ?_
    rintro e w6 ⟨rfl, hb6⟩
    have hD6 := Lib.hid (HSTEP.out w6 hb6)
    clear hat2 bx hb6 hC HSTEP
    go_wp2_with fail
    go_roundw
    case rel => exact ⟨i, j + 1, rfl, by go_num, hD6⟩
    case measure => simp [intOf]; omega
  ·obtain rfl : j = l.length := by omega
   have hgr1 : wr.heap[g]? = some (.cells ((((l.filter fun x => !f x).map rowL).flatten) ++ X ++ rest).toArray 37 (0, 0)) := by rw [hgr]; simp
   rw [List.take_length] at hieq hKf
   obtain ⟨Z, hZ⟩ : ∃ Z : List Value, (Builtin.zeroCells (Value.agg #[.string ByteArray.empty, .string ByteArray.empty, .int .i64 0]).cells (l.length - i)).toList = Z := ⟨_, rfl⟩
   have hZl : Z.length = (l.length - i) * 3 := by rw [← hZ, Array.length_toList, size_zeroCells]; rfl
   have hZ1 : ∀ v ∈ Z, v.oneCell' = true := by
    intro v hv
    rw [← hZ] at hv
    simp [Builtin.zeroCells, Value.cells] at hv
    obtain ⟨n, hn, rfl⟩ := hv
    have h3 : n % 3 = 0 ∨ n % 3 = 1 ∨ n % 3 = 2 := by omega
    rcases h3 with h | h | h <;> rw [h] <;> rfl
   have hcl := fun ty => run_clear_mid (P := Tryz.prog) ty 24 37 (.agg #[.string ByteArray.empty, .string ByteArray.empty, .int .i64 0]) Tryz.underlying24 (fun W => zeroL_lit W) (l.length - i) (c - i) (i * 3) (by omega) hgr1 hKf.symm hZ (by rw [hZl, hX]) hZ1
   have hclr := hcl 0
   have hfin := setRow_at (cs' := (((l.filter fun x => !f x).map rowL).flatten ++ Z ++ rest).toArray) hgr1
   have hO : ∀ W : World, W.heap[g]? = some (.cells (((l.filter fun x => !f x).map rowL).flatten ++ Z ++ rest).toArray 37 (0, 0)) → OwnR W base 37 3 (some ⟨g, 0, none⟩) c ((l.filter fun x => !f x).map rowL) := fun W hW => by
    refine OwnR.of_ (rest := Z ++ rest) (map_rowL_len _) hbg ?_ ?_ (by rw [List.length_map, ← hieq]; omega) hcm
    ·rw [hW]; simp
    ·have h3 := hlen
     rw [List.length_append, flat_len (map_rowL_len _), List.length_map] at h3
     rw [List.length_append, List.length_append, hKf, hZl]; omega
   have HO := Lib.hid (hO _ hfin)
   have HG := Lib.hid (hG.row (((l.filter fun x => !f x).map rowL).flatten ++ Z ++ rest).toArray)
   generalize (((l.filter fun x => !f x).map rowL).flatten ++ Z ++ rest).toArray = CS at *
   have y0 : (0 : Int) ≤ (i : Int) := by omega
   have y1 : (i : Int) ≤ (l.length : Int) := by omega
   have y2 : (c = i) = False := eq_false (by omega)
   have y3 : i ≤ l.length := by omega
   have y4 : i ≤ c := by omega
   have y5 : (i : Int) ≤ (c : Int) := by omega
   have HI := Lib.hid hieq
   clear hgr hgr1 hKf hX hG hZ hZl hZ1 hcl hfin hO hlen hieq
   go_wp2_with fail
   go_ret
   exact ⟨by rw [← HI.out]; rfl, HO.out, HG.out⟩
theorem deleteFL_any (K : FuncId) (caps : Array Value) (f : LeaseD → Bool) (l : List LeaseD) (base : Nat) (p : Option Addr) (c : Nat) (w : World) (hO : OwnR w base 37 3 p c (l.map rowL)) (hl : l.length ≤ 1000) (hfn : FnOk Tryz.prog w K caps rowL f l) (hf : ∀ g cur, base ≤ g → Blk w g 37 cur → FnOkG Tryz.prog w g K caps rowL f l) :
  Calls Tryz.prog 83 #[.slice p l.length c, .func (.func K) #[] caps] w fun e w' =>
   e = .returned (.slice p (l.filter fun x => !f x).length c) ∧ OwnR w' base 37 3 p c ((l.filter fun x => !f x).map rowL) ∧ w.grownBy w' (Value.slice p l.length c).ownBlock := by
 by_cases hix : pIx f l 0 = -1
 ·have hall := pIx_none hix
  have hk : (l.filter fun x => !f x) = l := List.filter_eq_self.2 fun x hx => by rw [hall x hx]; rfl
  have hIX := indexFL_any K caps f p c l w hO.elts (by omega) hfn
  rw [hix] at hIX
  rw [hk]
  have HIX := Lib.hid hIX
  clear hIX hix hall hk hf hfn
  go_enter Tryz.func83, Tryz.ntmps83
  go_wp2_with fail
  refine HIX.out.mono ?_
  rintro e w1 ⟨rfl, hb1⟩
  go_wp2_with fail
  go_ret
  exact ⟨rfl, hO.below hb1, grown_below_s _ hb1⟩
 ·obtain ⟨k, h1, h2, h3, h4⟩ := pIx_at hix
  have hne : l.map rowL ≠ [] := by intro h; have := congrArg List.length h; simp at this; subst this; simp at h1
  have hel := hO.elts
  obtain ⟨g, rest, rfl, hbg, hg, hlen, hlc, hcm⟩ := hO.at_ hne
  rw [List.length_map] at hlc
  rw [Nat.zero_add] at h2
  exact deleteFL_some K caps f l base g c k rest w hbg hg hlen hlc hcm hl h1 h2 h3 h4 hel (hf g _ hbg hg)
open Go.RowKit
theorem deleteFO_any (K : FuncId) (caps : Array Value) (f : LeaseD → Bool) (l : List LeaseD) (base : Nat) (p : Option Addr) (c : Nat) (w : World) (hO : Own w base 37 3 p c (l.map rowL)) (hl : l.length ≤ 1000) (hfn : FnOk Tryz.prog w K caps rowL f l) (hf : ∀ g cur, base ≤ g → Blk w g 37 cur → FnOkG Tryz.prog w g K caps rowL f l) :
  Calls Tryz.prog 83 #[.slice p l.length c, .func (.func K) #[] caps] w fun e w' =>
   ∃ p' c', e = .returned (.slice p' (l.filter fun x => !f x).length c') ∧ Own w' base 37 3 p' c' ((l.filter fun x => !f x).map rowL) ∧ Tch base 37 w w' := by
 rcases hO.toR with ⟨h0, h1⟩ | hR
 ·have hl0 : l = [] := by simpa using h0
  subst hl0 h1
  have HIX := Lib.hid (indexFL_any K caps f p 0 [] w Elts.nil_ (by simp) hfn)
  clear hO hf hfn
  go_enter Tryz.func83, Tryz.ntmps83
  go_wp2_with fail
  refine HIX.out.mono ?_
  rintro e w1 ⟨rfl, hb1⟩
  have hm : pIx f ([] : List LeaseD) 0 = -1 := rfl
  rw [hm]
  go_wp2_with fail
  go_ret
  exact ⟨p, 0, rfl, Own.nil_ _ _ _ _ _, Tch.new hb1⟩
 ·refine (deleteFL_any K caps f l base p c w hR hl hfn hf).mono ?_
  rintro e w' ⟨rfl, hO', hg'⟩
  exact ⟨p, c, rfl, Own.of hO', Tch.of_own hR (by simpa using hg')⟩
open Go.RowKit
theorem do1_any (gq : Nat) (x : LeaseD) (nm : ByteArray) (w : World) (hq : w.cell? ⟨gq, 12, none⟩ = some (.string nm)) (hlt : gq < w.heap.size) :
  Calls Tryz.prog 44 #[.agg #[.string x.job, .string x.node, .int .i64 x.till], .pointer (some ⟨gq, 0, none⟩)] w fun e w' => e = .returned (.bool (decide (x.job = nm))) ∧ Below w.heap.size w w' := by
 have hb0 : Below w.heap.size w (w.alloc (.cells #[.string x.job, .string x.node, .int .i64 x.till] 37)) := (Below.refl _ _).alloc (Nat.le_refl _) _
 have bx := Blk.new w 37 #[.string x.job, .string x.node, .int .i64 x.till]
 have h1 : (w.alloc (.cells #[.string x.job, .string x.node, .int .i64 x.till] 37)).cell? ⟨gq, 12, none⟩ = some (.string nm) := (hb0.cell (p := ⟨gq, 12, none⟩) hlt).trans hq
 have h2 : (w.alloc (.cells #[.string x.job, .string x.node, .int .i64 x.till] 37)).cell? ⟨w.heap.size, 0, none⟩ = some (.string x.job) := bx.cell 0
 have h3 : (x.job.toList == nm.toList) = decide (x.job = nm) := by
  by_cases h : x.job = nm
  ·rw [h]; simp
  ·rw [decide_eq_false h, beq_eq_false_iff_ne]; exact fun e => h (toList_inj e)
 clear hq
 go_enter Tryz.func44, Tryz.ntmps44
 go_wp2_with fail
 go_ret
 exact ⟨rfl, hb0⟩
theorem do2_any (gq : Nat) (x : LeaseD) (nm : ByteArray) (w : World) (hq : w.cell? ⟨gq, 12, none⟩ = some (.string nm)) (hlt : gq < w.heap.size) :
  Calls Tryz.prog 46 #[.agg #[.string x.job, .string x.node, .int .i64 x.till], .pointer (some ⟨gq, 0, none⟩)] w fun e w' => e = .returned (.bool (decide (x.node = nm))) ∧ Below w.heap.size w w' := by
 have hb0 : Below w.heap.size w (w.alloc (.cells #[.string x.job, .string x.node, .int .i64 x.till] 37)) := (Below.refl _ _).alloc (Nat.le_refl _) _
 have bx := Blk.new w 37 #[.string x.job, .string x.node, .int .i64 x.till]
 have h1 : (w.alloc (.cells #[.string x.job, .string x.node, .int .i64 x.till] 37)).cell? ⟨gq, 12, none⟩ = some (.string nm) := (hb0.cell (p := ⟨gq, 12, none⟩) hlt).trans hq
 have h2 : (w.alloc (.cells #[.string x.job, .string x.node, .int .i64 x.till] 37)).cell? ⟨w.heap.size, 1, none⟩ = some (.string x.node) := bx.cell 1
 have h3 : (x.node.toList == nm.toList) = decide (x.node = nm) := by
  by_cases h : x.node = nm
  ·rw [h]; simp
  ·rw [decide_eq_false h, beq_eq_false_iff_ne]; exact fun e => h (toList_inj e)
 clear hq
 go_enter Tryz.func46, Tryz.ntmps46
 go_wp2_with fail
 go_ret
 exact ⟨rfl, hb0⟩
theorem do3_any (gb gw : Nat) (x : LeaseD) (now : Int) (w : World) (hq : w.cell? ⟨gb, 0, none⟩ = some (.pointer (some ⟨gw, 0, none⟩))) (hlt : gb < w.heap.size) (hq2 : w.cell? ⟨gw, 1, none⟩ = some (.int .i64 now)) (hlt2 : gw < w.heap.size) :
  Calls Tryz.prog 49 #[.agg #[.string x.job, .string x.node, .int .i64 x.till], .pointer (some ⟨gb, 0, none⟩)] w fun e w' => e = .returned (.bool (decide (x.till ≤ now))) ∧ Below w.heap.size w w' := by
 have hb0 : Below w.heap.size w (w.alloc (.cells #[.string x.job, .string x.node, .int .i64 x.till] 37)) := (Below.refl _ _).alloc (Nat.le_refl _) _
 have bx := Blk.new w 37 #[.string x.job, .string x.node, .int .i64 x.till]
 have h1 : (w.alloc (.cells #[.string x.job, .string x.node, .int .i64 x.till] 37)).cell? ⟨gb, 0, none⟩ = some (.pointer (some ⟨gw, 0, none⟩)) := (hb0.cell (p := ⟨gb, 0, none⟩) hlt).trans hq
 have h4 : (w.alloc (.cells #[.string x.job, .string x.node, .int .i64 x.till] 37)).cell? ⟨gw, 1, none⟩ = some (.int .i64 now) := (hb0.cell (p := ⟨gw, 1, none⟩) hlt2).trans hq2
 have h2 : (w.alloc (.cells #[.string x.job, .string x.node, .int .i64 x.till] 37)).cell? ⟨w.heap.size, 2, none⟩ = some (.int .i64 x.till) := bx.cell 2
 clear hq hq2
 go_enter Tryz.func49, Tryz.ntmps49
 go_upto_region 1 with fail
 generalize w.alloc _ = w0 at *
 go_big_quiet (fail)
 go_wp2_with fail
 go_ret
 exact ⟨rfl, ⟨hb0.os, hb0.tape, hb0.output, hb0.size, fun k hk => hb0.block k hk⟩⟩
theorem without_any (K : FuncId) (caps : Array Value) (f : LeaseD → Bool) (base gn gw : Nat) (q1 q2 q3 : Option Addr) (d1 d2 d3 : Nat) (s : St) (now : Int) (w : World) (hM : WorkM w base gn gw q1 q2 q3 d1 d2 d3 s now) (hbw : base ≤ w.heap.size) (hl : s.leases.length ≤ 1000)
  (hfn : FnOk Tryz.prog w K caps rowL f s.leases) (hf : ∀ g cur, base ≤ g → Blk w g 37 cur → FnOkG Tryz.prog w g K caps rowL f s.leases) :
  Calls Tryz.prog 43 #[.pointer (some ⟨gw, 0, none⟩), .func (.func K) #[] caps] w fun e w' => e = .returned (.tuple #[]) ∧
   ∃ q d, WorkM w' base gn gw q1 q2 q d1 d2 d { s with leases := s.leases.filter fun x => !f x } now ∧ Below base w w' ∧ Kp w w' ∧ w.heap.size ≤ w'.heap.size := by
 have HD := Lib.hid (deleteFO_any K caps f s.leases base q3 d3 w.drew hM.own.l hl ⟨hfn.enter, fun x hx W hW => hfn.calls x hx W ⟨hW.os, hW.tape, hW.output, hW.size, hW.block⟩⟩ (fun g cur hg hb => ⟨hfn.enter, fun x hx W hW => (hf g cur hg hb).calls x hx W ⟨hW.os, hW.tape, hW.output, hW.size, hW.block⟩⟩)) 
 have c0 : w.cell? ⟨gw, 0, none⟩ = some (.pointer (some ⟨gn, 0, none⟩)) := hM.bw.cell 0
 have c3 : w.drew.cell? ⟨gn, 3, none⟩ = some (.slice q3 s.leases.length d3) := hM.bn.cell 3
 have hne := hM.ne
 have HM := Lib.hid hM
 clear hM hfn hf
 go_enter Tryz.func43, Tryz.ntmps43
 have G0 : w.drew.cell? ⟨gw, 0, none⟩ = some (.pointer (some ⟨gn, 0, none⟩)) := c0
 refine wp_region_held_drew (S := fun W => W.cell? ⟨gw, 0, none⟩ = some (.pointer (some ⟨gn, 0, none⟩))) (by kernel_rfl) G0 (fun hHeld => ?_)
 refine tk 0 (v := ?_) rfl (Or.inl ⟨by rfl, ?_⟩) ?_
 rotate_left
 ·(intro w5 hw5; go_simp; (try with_reducible rfl))
 (try simp only [Act.put, ma, mb, mc, md, me, mf])
 refine tk 1 (v := ?_) rfl (Or.inl ⟨by rfl, ?_⟩) ?_
 rotate_left
 ·(intro w5 hw5; go_simp; (try with_reducible rfl))
 (try simp only [Act.put, ma, mb, mc, md, me, mf])
 refine tk 2 (v := ?_) rfl (Or.inl ⟨by rfl, ?_⟩) ?_
 rotate_left
 ·(intro w5 hw5; go_simp; (try with_reducible rfl))
 (try simp only [Act.put, ma, mb, mc, md, me, mf])
 refine tk 3 (v := ?_) rfl (Or.inl ⟨by rfl, ?_⟩) ?_
 rotate_left
 ·(intro w5 hw5; go_simp; (try with_reducible rfl))
 (try simp only [Act.put, ma, mb, mc, md, me, mf])
 refine tk 4 (v := ?_) rfl (Or.inl ⟨by rfl, ?_⟩) ?_
 rotate_left
 ·(intro w5 hw5; go_simp; (try with_reducible rfl))
 (try simp only [Act.put, ma, mb, mc, md, me, mf])
 refine tk 5 (v := ?_) rfl (Or.inl ⟨by rfl, ?_⟩) ?_
 rotate_left
 ·(intro w5 hw5; go_simp; (try with_reducible rfl))
 (try simp only [Act.put, ma, mb, mc, md, me, mf])
 refine tk 6 (v := ?_) rfl (Or.inl ⟨by rfl, ?_⟩) ?_
 rotate_left
 ·(intro w5 hw5; go_simp; (try with_reducible rfl))
 (try simp only [Act.put, ma, mb, mc, md, me, mf])
 refine tk 7 (v := ?_) rfl (Or.inl ⟨by rfl, ?_⟩) ?_
 rotate_left
 ·(intro w5 hw5; go_simp; (try with_reducible rfl))
 (try simp only [Act.put, ma, mb, mc, md, me, mf])
 refine tk 8 (v := ?_) rfl (Or.inl ⟨by rfl, ?_⟩) ?_
 rotate_left
 ·(intro w5 hw5; go_simp; (try with_reducible rfl))
 (try simp only [Act.put, ma, mb, mc, md, me, mf])
 refine tk 9 (v := ?_) rfl (Or.inl ⟨by rfl, ?_⟩) ?_
 rotate_left
 ·(intro w5 hw5; go_simp; (try with_reducible rfl))
 (try simp only [Act.put, ma, mb, mc, md, me, mf])
 refine tk 11 (v := ?_) rfl (Or.inl ⟨by rfl, ?_⟩) ?_
 rotate_left
 ·(intro w5 hw5; go_simp; (try with_reducible rfl))
 (try simp only [Act.put, ma, mb, mc, md, me, mf])
 refine tr 10 rfl (fun K hK => ?_)
 go_simp
 refine hK.out _ _ ?_ (fun hHeld => ?_)
 ·exact G0
 clear hK K
 (try simp only [Act.put, ma, mb, mc, md, me, mf])
 refine tr 12 rfl (fun K hK => ?_)
 go_simp
 refine HD.out.mono ?_
 rintro e w1 ⟨q, d, rfl, hO, hT⟩
 have b1 := hT.blk HM.out.bw (by decide)
 have G1 : w1.cell? ⟨gw, 0, none⟩ = some (.pointer (some ⟨gn, 0, none⟩)) := b1.cell 0
 have bn1 := hT.blk HM.out.bn (by decide)
 have y0 : w1.cell? ⟨gn, 3, none⟩ = some (.slice q3 s.leases.length d3) := bn1.cell 3
 have y1 : w1.frozen? ⟨gn, 3, none⟩ = false := bn1.frozen 3
 refine hK.out _ _ ?_ (fun hHeld => ?_)
 ·exact G1
 clear hK K
 (try simp only [Act.put, ma, mb, mc, md, me, mf])
 refine tk 13 (v := ?_) rfl (Or.inl ⟨by rfl, ?_⟩) ?_
 rotate_left
 ·(intro w5 hw5; go_simp; (try with_reducible rfl))
 (try simp only [Act.put, ma, mb, mc, md, me, mf])
 refine tk 14 (v := ?_) rfl (Or.inl ⟨by rfl, ?_⟩) ?_
 rotate_left
 ·(intro w5 hw5; go_simp; (try with_reducible rfl))
 (try simp only [Act.put, ma, mb, mc, md, me, mf])
 have b2 := b1.far (p := ⟨gn, 3, none⟩) hne (.slice q (s.leases.filter fun x => !f x).length d)
 refine tr 15 rfl (fun K hK => ?_)
 go_simp
 refine hK.out _ _ ?_ (fun hHeld => ?_)
 ·exact b2.cell 0
 clear hK K
 (try simp only [Act.put, ma, mb, mc, md, me, mf])
 refine wpAnyH_done (by kernel_rfl) ?_ _
 have hT := Tch.after ((Below.refl _ w).drew) hT
 have hW := HM.out.setL hT hO
 have hK : Kp w (w1.setCell ⟨gn, 3, none⟩ (.slice q (s.leases.filter fun x => !f x).length d)) := (Kp.tchL hT).trans (Kp.cell bn1 (by simp) 3 _)
 have hB : Below base w (w1.setCell ⟨gn, 3, none⟩ (.slice q (s.leases.filter fun x => !f x).length d)) := (hT.low (Below.refl _ _) hbw).setCell (p := ⟨gn, 3, none⟩) HM.out.hn _
 have hS : w.heap.size ≤ (w1.setCell ⟨gn, 3, none⟩ (.slice q (s.leases.filter fun x => !f x).length d)).heap.size := by
  obtain ⟨_, hg, _⟩ := hT
  simpa using hg.size
 generalize w1.setCell _ _ = w2 at *
 go_wp2_with fail
 go_end0
 exact ⟨rfl, q, d, hW, hB, hK, hS⟩
end Go.Proofs.YtaioadbenigdpaaGreatDoor
