/-
  Several texts in one: IxP, IxFL.
-/
import Derived.Test.YtnmokjgnbcfabaaDoorPkStateA
import Derived.Test.YtnmokjgnbcfabaaDoorPkBase
/-
  Plain: where the first is of which something holds.
-/
set_option linter.unusedVariables false
set_option linter.unusedSimpArgs false
namespace Go.Proofs.YtnmokjgnbcfabaaDoor
open Go.RowKit
def pIx {α : Type} (f : α → Bool) : List α → Nat → Int
  | [], _ => -1
  | x :: r, i => if f x = true then (i : Int) else pIx f r (i + 1)
theorem pIx_cons {α : Type} (f : α → Bool) (x : α) (r : List α) (i : Nat) : pIx f (x :: r) i = if f x = true then (i : Int) else pIx f r (i + 1) := rfl
theorem pIx_any {α : Type} (f : α → Bool) : ∀ (l : List α) (i : Nat), decide (0 ≤ pIx f l i) = l.any f
  | [], _ => rfl
  | x :: r, i => by
    rw [pIx_cons, List.any_cons]
    cases h : f x
    · rw [if_neg (by simp), pIx_any f r (i + 1)]; simp
    · rw [if_pos rfl]; simp
theorem pIx_bd {α : Type} (f : α → Bool) : ∀ (l : List α) (i : Nat), -1 ≤ pIx f l i ∧ pIx f l i < i + l.length + 1
  | [], i => by simp [pIx]; omega
  | x :: r, i => by
    have := pIx_bd f r (i + 1)
    rw [pIx_cons, List.length_cons]
    split <;> omega
/-- A function value that answers f of a row, and makes new memory at most. -/
structure FnOk {α : Type} (P : Program) (w : World) (K : FuncId) (caps : Array Value) (row : α → List Value) (f : α → Bool) (l : List α) : Prop where
  enter : ∀ (args : Array Value) (W : World), (callFunc K args).run P W = .ok (.enter K args) W
  calls : ∀ x ∈ l, ∀ W, Below w.heap.size w W → Calls P K (#[.agg (row x).toArray] ++ caps) W fun e W' => e = .returned (.bool (f x)) ∧ Below W.heap.size W W'
end Go.Proofs.YtnmokjgnbcfabaaDoor

/-
  Contracts of slices.IndexFunc and slices.ContainsFunc at leases, for whatever function is handed in.
-/
set_option linter.unusedVariables false
set_option linter.unusedSimpArgs false
namespace Go.Proofs.YtnmokjgnbcfabaaDoor
open Go.RowKit
set_option maxHeartbeats 2000000 in
set_option maxRecDepth 100000 in
theorem indexFL_any (K : FuncId) (caps : Array Value) (f : LeaseD → Bool) (p : Option Addr) (c : Nat) (l : List LeaseD) (w : World) (hel : Elts w w.heap.size 3 p (l.map rowL)) (hl : l.length ≤ 4611686018427387904) (hf : FnOk Tryd.prog w K caps rowL f l) :
    Calls Tryd.prog 114 #[.slice p l.length c, .func (.func K) #[] caps] w fun e w' => e = .returned (.int .i64 (pIx f l 0)) ∧ Below w.heap.size w w' := by
  have HF := Lib.hid hf.calls
  have hen := hf.enter
  clear hf
  go_enter Tryd.func114, Tryd.ntmps114
  go_wp2_with fail
  go_loopw [8] (fun i wr => ∃ k : Nat, k ≤ l.length ∧ i = .int .i64 k ∧ Below w.heap.size w wr ∧ Hid (pIx f l 0 = pIx f (l.drop k) k)) (fun i _ => l.length - (intOf i).toNat)
  case atStart => exact ⟨0, Nat.zero_le _, rfl, Below.refl _ _, (show _ = _ from rfl)⟩
  case round =>
    obtain ⟨k, hk, rfl, hbr, HR⟩ := hrel
    by_cases hlt : k < l.length
    · have hx : l[k]? = some l[k] := List.getElem?_eq_getElem hlt
      have hc := HF.out l[k] (List.getElem_mem hlt) wr hbr
      have hdr := dropAt l k _ hx
      generalize l[k] = x at *
      obtain ⟨a, rfl, hab, _, hat⟩ := (hel.below hbr).at_ (k := k) (r := rowL x) (by rw [List.getElem?_map, hx]; rfl)
      have HR0 := HR.out
      rw [hdr, pIx_cons] at HR0
      cases hp : f x
      · rw [hp] at hc HR0
        rw [if_neg (by simp)] at HR0
        have HC := Lib.hid hc
        have HR1 := Lib.hid HR0
        clear hc HR0 HR hdr hx hp
        go_wp2_with (refine wpList_load_at rfl _ _ rfl (a.add (k * 3)) rfl [Value.string x.job, Value.string x.node, Value.int .i64 x.till] _ hat Tryd.underlying38 rfl lease_size ?_)
        refine HC.out.mono ?_
        rintro e w1 ⟨rfl, hb1⟩
        have hB := hbr.trans (hb1.mono hbr.size)
        clear hb1 hat
        go_wp2_with fail
        go_roundw
        case rel => exact ⟨k + 1, by omega, by go_num, hB, HR1.out⟩
        case measure => simp [intOf]; omega
      · rw [hp] at hc HR0
        rw [if_pos rfl] at HR0
        have HC := Lib.hid hc
        have HR1 := Lib.hid HR0
        clear hc HR0 HR hdr hx hp
        go_wp2_with (refine wpList_load_at rfl _ _ rfl (a.add (k * 3)) rfl [Value.string x.job, Value.string x.node, Value.int .i64 x.till] _ hat Tryd.underlying38 rfl lease_size ?_)
        refine HC.out.mono ?_
        rintro e w1 ⟨rfl, hb1⟩
        have hB := hbr.trans (hb1.mono hbr.size)
        clear hb1 hat
        go_wp2_with fail
        go_ret
        exact ⟨by rw [HR1.out]; rfl, hB⟩
    · obtain rfl : k = l.length := by omega
      have HR0 := HR.out
      rw [List.drop_length] at HR0
      have HR1 := Lib.hid HR0
      clear HR0 HR
      go_wp2_with fail
      go_ret
      exact ⟨by rw [HR1.out]; rfl, hbr⟩
set_option maxHeartbeats 1000000 in
set_option maxRecDepth 100000 in
theorem containsFL_any (K : FuncId) (caps : Array Value) (f : LeaseD → Bool) (p : Option Addr) (c : Nat) (l : List LeaseD) (w : World) (hel : Elts w w.heap.size 3 p (l.map rowL)) (hl : l.length ≤ 4611686018427387904) (hf : FnOk Tryd.prog w K caps rowL f l) :
    Calls Tryd.prog 99 #[.slice p l.length c, .func (.func K) #[] caps] w fun e w' => e = .returned (.bool (l.any f)) ∧ Below w.heap.size w w' := by
  have hc := indexFL_any K caps f p c l w hel hl hf
  have ha := pIx_any f l 0
  have hbd := pIx_bd f l 0
  generalize pIx f l 0 = n at *
  have HC := Lib.hid hc
  have HA := Lib.hid ha
  clear hc ha hf hel
  go_enter Tryd.func99, Tryd.ntmps99
  go_wp2_with fail
  refine HC.out.mono ?_
  rintro e w1 ⟨rfl, hb1⟩
  go_wp2_with fail
  go_ret
  exact ⟨by rw [← HA.out]; rfl, hb1⟩
end Go.Proofs.YtnmokjgnbcfabaaDoor
