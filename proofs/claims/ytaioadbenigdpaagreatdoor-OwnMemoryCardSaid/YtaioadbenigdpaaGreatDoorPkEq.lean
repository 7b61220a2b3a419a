/-
  Several texts in one: EqH, EqJ, EqN, EqL.
-/
import Derived.Test.YtaioadbenigdpaaGreatDoorPkStateB
import Derived.Laws.StructEq
set_option linter.unusedVariables false
set_option linter.unusedSimpArgs false
set_option maxHeartbeats 16000000
set_option maxRecDepth 100000
namespace Go.Proofs.YtaioadbenigdpaaGreatDoor
open Go.RowKit
section
variable {P : Program} {ops : Array Oper} {C : World → Prop} {Q : Act → Prop} {o : Oper} {rest : List Oper} {a : Act}
theorem wpQuiet_neq (hw : Region.wanted o (yielded ops a.tmps) = true) (t rt : TypeId) (x y : Operand) (ho : o.op = .binOp .neq t x y rt) (xs ys : Array Value) (b : Bool) (hx : a.eval x = .agg xs) (hy : a.eval y = .agg ys)
  (hm : P.eqGuardType P.depth t = false) (heq : ∀ w, (Op.equalIn 10000 t (.agg xs) (.agg ys)).run P w = .ok b w) (h : wpQuiet P ops C Q rest (a.put o.dst (.bool (!b)))) : wpQuiet P ops C Q (o :: rest) a := by
 refine wpQuiet_do (v := .bool (!b)) hw (fun w _ => ?_) h
 unfold Oper.quietAt execOp
 simp only [ho, hx, hy, Sem.run_bind, run_eqGuard_agg w .neq t x y xs ys hm, Result.andThen_ok, run_neq_struct, heq, Sem.run_pure]
 exact ⟨rfl, rfl⟩
end
theorem tl_eq {a b : ByteArray} : a.toList = b.toList ↔ a = b := ⟨toList_inj, fun h => by rw [h]⟩
theorem tl_beq (a b : ByteArray) : (a.toList == b.toList) = decide (a = b) := by
 by_cases h : a = b
 ·subst h; simp
 ·rw [decide_eq_false h, beq_eq_false_iff_ne]; exact fun e => h (toList_inj e)
theorem eqInJ (x y : JobD) (w : World) : (Op.equalIn 10000 31 (.agg (rowJ x).toArray) (.agg (rowJ y).toArray)).run Tryz.prog w = .ok (decide (x = y)) w := by
 have hS : Tryz.prog.underlying 31 = some (.struct (Tryz.prog.fieldsOf 31)) := by kernel_rfl
 have hp : Tryz.prog.stoodInHeld 31 = false := by kernel_rfl
 have us := Tryz.underlying9
 have ui := Tryz.underlying3
 have zs := Tryz.sizeOf9
 have zi := Tryz.sizeOf3
 have gs := Tryz.isAgg9
 have gi := Tryz.isAgg3
 rw [show (10000 : Nat) = 9999 + 1 from rfl, run_equalIn_agg w 9999 31 _ _ hS hp]
 obtain ⟨x0, x1, x2, x3, x4⟩ := x
 obtain ⟨y0, y1, y2, y3, y4⟩ := y
 simp only [Program.fieldsOf, Tryz.underlying31, rowJ]
 go_simp
 try simp only [JobD.mk.injEq]
 by_cases h0 : x0 = y0 <;> by_cases h1 : x1 = y1 <;> by_cases h2 : x2 = y2 <;> by_cases h3 : x3 = y3 <;> by_cases h4 : x4 = y4 <;> simp [tl_eq, h0, h1, h2, h3, h4]
theorem eqGuardJ : Tryz.prog.eqGuardType Tryz.prog.depth 31 = false := by kernel_rfl
theorem eqInN (x y : NodeD) (w : World) : (Op.equalIn 10000 34 (.agg (rowN x).toArray) (.agg (rowN y).toArray)).run Tryz.prog w = .ok (decide (x = y)) w := by
 have hS : Tryz.prog.underlying 34 = some (.struct (Tryz.prog.fieldsOf 34)) := by kernel_rfl
 have hp : Tryz.prog.stoodInHeld 34 = false := by kernel_rfl
 have us := Tryz.underlying9
 have ui := Tryz.underlying3
 have zs := Tryz.sizeOf9
 have zi := Tryz.sizeOf3
 have gs := Tryz.isAgg9
 have gi := Tryz.isAgg3
 rw [show (10000 : Nat) = 9999 + 1 from rfl, run_equalIn_agg w 9999 34 _ _ hS hp]
 obtain ⟨x0, x1, x2⟩ := x
 obtain ⟨y0, y1, y2⟩ := y
 simp only [Program.fieldsOf, Tryz.underlying34, rowN]
 go_simp
 try simp only [NodeD.mk.injEq]
 by_cases h0 : x0 = y0 <;> by_cases h1 : x1 = y1 <;> by_cases h2 : x2 = y2 <;> simp [tl_eq, h0, h1, h2]
theorem eqGuardN : Tryz.prog.eqGuardType Tryz.prog.depth 34 = false := by kernel_rfl
theorem eqInL (x y : LeaseD) (w : World) : (Op.equalIn 10000 37 (.agg (rowL x).toArray) (.agg (rowL y).toArray)).run Tryz.prog w = .ok (decide (x = y)) w := by
 have hS : Tryz.prog.underlying 37 = some (.struct (Tryz.prog.fieldsOf 37)) := by kernel_rfl
 have hp : Tryz.prog.stoodInHeld 37 = false := by kernel_rfl
 have us := Tryz.underlying9
 have ui := Tryz.underlying3
 have zs := Tryz.sizeOf9
 have zi := Tryz.sizeOf3
 have gs := Tryz.isAgg9
 have gi := Tryz.isAgg3
 rw [show (10000 : Nat) = 9999 + 1 from rfl, run_equalIn_agg w 9999 37 _ _ hS hp]
 obtain ⟨x0, x1, x2⟩ := x
 obtain ⟨y0, y1, y2⟩ := y
 simp only [Program.fieldsOf, Tryz.underlying37, rowL]
 go_simp
 try simp only [LeaseD.mk.injEq]
 by_cases h0 : x0 = y0 <;> by_cases h1 : x1 = y1 <;> by_cases h2 : x2 = y2 <;> simp [tl_eq, h0, h1, h2]
theorem eqGuardL : Tryz.prog.eqGuardType Tryz.prog.depth 37 = false := by kernel_rfl
theorem take_snoc_eq {α : Type} {l m : List α} {k : Nat} {x : α} (h : l.take k = m.take k) (hx : l[k]? = some x) (hy : m[k]? = some x) : l.take (k + 1) = m.take (k + 1) := by
 rw [List.take_add_one, List.take_add_one, h, hx, hy]
theorem take_eq_ne {α : Type} {l m : List α} {k : Nat} {x y : α} (hne : x ≠ y) (hx : l[k]? = some x) (hy : m[k]? = some y) : l ≠ m := by
 rintro rfl
 rw [hx] at hy
 injection hy with hy
 exact hne hy
open Go.RowKit
theorem eqJ_any (p q : Option Addr) (c c' : Nat) (l m : List JobD) (w : World) (hp : Elts w w.heap.size 5 p (l.map rowJ)) (hq : Elts w w.heap.size 5 q (m.map rowJ)) (hl : l.length ≤ 4611686018427387904) (hm : m.length ≤ 4611686018427387904) :
  Calls Tryz.prog 13 #[.slice p l.length c, .slice q m.length c'] w fun e w' => e = .returned (.bool (decide (l = m))) ∧ Below w.heap.size w w' := by
 by_cases hlen : l.length = m.length
 ·have hb : ((l.length : Int) != (m.length : Int)) = false := by rw [hlen]; simp
  have h1 : l.length ≤ m.length := by omega
  have h2 : m.length ≤ l.length := by omega
  have HLEN := Lib.hid hlen
  clear hlen
  go_enter Tryz.func13, Tryz.ntmps13
  go_wp2_with fail
  go_loopw [14] (fun i wr => ∃ k : Nat, k ≤ l.length ∧ i = .int .i64 k ∧ Below w.heap.size w wr ∧ Hid (l.take k = m.take k)) (fun i _ => l.length - (intOf i).toNat)
  case atStart => exact ⟨0, Nat.zero_le _, rfl, Below.refl _ _, (show _ = _ from rfl)⟩
  case round =>
   obtain ⟨k, hk, rfl, hbr, HT⟩ := hrel
   by_cases hlt : k < l.length
   ·have hkm : k < m.length := by omega
    have hx : l[k]? = some l[k] := List.getElem?_eq_getElem hlt
    have hy : m[k]? = some m[k] := List.getElem?_eq_getElem hkm
    generalize l[k] = x at *
    generalize m[k] = y at *
    obtain ⟨a, rfl, hab, _, hat⟩ := (hp.below hbr).at_ (k := k) (r := rowJ x) (by rw [List.getElem?_map, hx]; rfl)
    obtain ⟨b, rfl, hbb, _, hbt⟩ := (hq.below hbr).at_ (k := k) (r := rowJ y) (by rw [List.getElem?_map, hy]; rfl)
    have hB5 := hbr.alloc hbr.size (.cells #[.string x.name, .int .i64 x.prio, .int .i64 x.need, .int .i64 x.tries, .string x.tag] 31)
    have hbt5 := hbt.below ((Below.refl wr.heap.size wr).alloc (Nat.le_refl _) (.cells #[.string x.name, .int .i64 x.prio, .int .i64 x.need, .int .i64 x.tries, .string x.tag] 31)) (by rw [block_of_add]; have := hbr.size; omega)
    have HX := Lib.hid hx
    have HY := Lib.hid hy
    clear hx hy hbt
    by_cases hxy : x = y
    ·have HQ := Lib.hid (fun W => (eqInJ x y W).trans (by rw [decide_eq_true hxy]))
     have HN := Lib.hid (take_snoc_eq HT.out HX.out (hxy ▸ HY.out))
     clear hxy HX HY HT
     go_wp2_with (refine wpList_load_at rfl _ _ rfl (a.add (k * 5)) rfl [Value.string x.name, Value.int .i64 x.prio, Value.int .i64 x.need, Value.int .i64 x.tries, Value.string x.tag] _ hat Tryz.underlying31 rfl job_size ?_)
     refine wp_region_quiet_lit (by kernel_rfl) (by kernel_rfl) ?_
     repeat (first
      | (refine wpQuiet_neq rfl _ _ _ _ rfl #[.string x.name, .int .i64 x.prio, .int .i64 x.need, .int .i64 x.tries, .string x.tag] #[.string y.name, .int .i64 y.prio, .int .i64 y.need, .int .i64 y.tries, .string y.tag] true rfl rfl eqGuardJ HQ.out ?_; simp only [Act.put, List.setIfInBounds_toArray, List.set_cons_zero, List.set_cons_succ, Bool.not_true])
      | go_big_quiet_step (fail)
      | (refine wpQuiet_load_at rfl _ _ rfl (b.add (k * 5)) rfl [Value.string y.name, Value.int .i64 y.prio, Value.int .i64 y.need, Value.int .i64 y.tries, Value.string y.tag] _ ?_ Tryz.underlying31 rfl job_size ?_; (focus (rintro w5 ⟨n5, rfl⟩; exact hbt5.drewN n5)); simp only [Act.put, List.setIfInBounds_toArray, List.set_cons_zero, List.set_cons_succ]))
     refine wpQuiet_nil ?_
     intro _ hw'
     obtain ⟨nq, hw''⟩ := hw'
     subst hw''
     go_wp2_with fail
     go_roundw
     case rel => exact ⟨k + 1, by omega, by go_num, below_drewN hB5 nq, HN.out⟩
     case measure => simp [intOf]; omega
    ·have HQ := Lib.hid (fun W => (eqInJ x y W).trans (by rw [decide_eq_false hxy]))
     have HN := Lib.hid (take_eq_ne hxy HX.out HY.out)
     clear hxy HX HY HT
     go_wp2_with (refine wpList_load_at rfl _ _ rfl (a.add (k * 5)) rfl [Value.string x.name, Value.int .i64 x.prio, Value.int .i64 x.need, Value.int .i64 x.tries, Value.string x.tag] _ hat Tryz.underlying31 rfl job_size ?_)
     refine wp_region_quiet_lit (by kernel_rfl) (by kernel_rfl) ?_
     repeat (first
      | (refine wpQuiet_neq rfl _ _ _ _ rfl #[.string x.name, .int .i64 x.prio, .int .i64 x.need, .int .i64 x.tries, .string x.tag] #[.string y.name, .int .i64 y.prio, .int .i64 y.need, .int .i64 y.tries, .string y.tag] false rfl rfl eqGuardJ HQ.out ?_; simp only [Act.put, List.setIfInBounds_toArray, List.set_cons_zero, List.set_cons_succ, Bool.not_false])
      | go_big_quiet_step (fail)
      | (refine wpQuiet_load_at rfl _ _ rfl (b.add (k * 5)) rfl [Value.string y.name, Value.int .i64 y.prio, Value.int .i64 y.need, Value.int .i64 y.tries, Value.string y.tag] _ ?_ Tryz.underlying31 rfl job_size ?_; (focus (rintro w5 ⟨n5, rfl⟩; exact hbt5.drewN n5)); simp only [Act.put, List.setIfInBounds_toArray, List.set_cons_zero, List.set_cons_succ]))
     refine wpQuiet_nil ?_
     intro _ hw'
     obtain ⟨nq, hw''⟩ := hw'
     subst hw''
     go_wp2_with fail
     go_ret
     exact ⟨by rw [decide_eq_false HN.out]; rfl, below_drewN hB5 nq⟩
   ·obtain rfl : k = l.length := by omega
    have HE := Lib.hid (show l = m from by have := HT.out; rwa [List.take_length, HLEN.out, List.take_length] at this)
    clear HT
    go_wp2_with fail
    go_ret
    exact ⟨by rw [decide_eq_true HE.out]; rfl, hbr⟩
 ·have hb : ((l.length : Int) != (m.length : Int)) = true := by rw [bne_iff_ne]; omega
  have HN := Lib.hid (show l ≠ m from fun e => hlen (by rw [e]))
  clear hlen
  go_enter Tryz.func13, Tryz.ntmps13
  go_wp2_with fail
  go_ret
  exact ⟨by rw [decide_eq_false HN.out]; rfl, Below.refl _ _⟩
open Go.RowKit
theorem eqN_any (p q : Option Addr) (c c' : Nat) (l m : List NodeD) (w : World) (hp : Elts w w.heap.size 3 p (l.map rowN)) (hq : Elts w w.heap.size 3 q (m.map rowN)) (hl : l.length ≤ 4611686018427387904) (hm : m.length ≤ 4611686018427387904) :
  Calls Tryz.prog 14 #[.slice p l.length c, .slice q m.length c'] w fun e w' => e = .returned (.bool (decide (l = m))) ∧ Below w.heap.size w w' := by
 by_cases hlen : l.length = m.length
 ·have hb : ((l.length : Int) != (m.length : Int)) = false := by rw [hlen]; simp
  have h1 : l.length ≤ m.length := by omega
  have h2 : m.length ≤ l.length := by omega
  have HLEN := Lib.hid hlen
  clear hlen
  go_enter Tryz.func14, Tryz.ntmps14
  go_wp2_with fail
  go_loopw [14] (fun i wr => ∃ k : Nat, k ≤ l.length ∧ i = .int .i64 k ∧ Below w.heap.size w wr ∧ Hid (l.take k = m.take k)) (fun i _ => l.length - (intOf i).toNat)
  case atStart => exact ⟨0, Nat.zero_le _, rfl, Below.refl _ _, (show _ = _ from rfl)⟩
  case round =>
   obtain ⟨k, hk, rfl, hbr, HT⟩ := hrel
   by_cases hlt : k < l.length
   ·have hkm : k < m.length := by omega
    have hx : l[k]? = some l[k] := List.getElem?_eq_getElem hlt
    have hy : m[k]? = some m[k] := List.getElem?_eq_getElem hkm
    generalize l[k] = x at *
    generalize m[k] = y at *
    obtain ⟨a, rfl, hab, _, hat⟩ := (hp.below hbr).at_ (k := k) (r := rowN x) (by rw [List.getElem?_map, hx]; rfl)
    obtain ⟨b, rfl, hbb, _, hbt⟩ := (hq.below hbr).at_ (k := k) (r := rowN y) (by rw [List.getElem?_map, hy]; rfl)
    have hB5 := hbr.alloc hbr.size (.cells #[.string x.name, .int .i64 x.room, .string x.zone] 34)
    have hbt5 := hbt.below ((Below.refl wr.heap.size wr).alloc (Nat.le_refl _) (.cells #[.string x.name, .int .i64 x.room, .string x.zone] 34)) (by rw [block_of_add]; have := hbr.size; omega)
    have HX := Lib.hid hx
    have HY := Lib.hid hy
    clear hx hy hbt
    by_cases hxy : x = y
    ·have HQ := Lib.hid (fun W => (eqInN x y W).trans (by rw [decide_eq_true hxy]))
     have HN := Lib.hid (take_snoc_eq HT.out HX.out (hxy ▸ HY.out))
     clear hxy HX HY HT
     go_wp2_with (refine wpList_load_at rfl _ _ rfl (a.add (k * 3)) rfl [Value.string x.name, Value.int .i64 x.room, Value.string x.zone] _ hat Tryz.underlying34 rfl node_size ?_)
     refine wp_region_quiet_lit (by kernel_rfl) (by kernel_rfl) ?_
     repeat (first
      | (refine wpQuiet_neq rfl _ _ _ _ rfl #[.string x.name, .int .i64 x.room, .string x.zone] #[.string y.name, .int .i64 y.room, .string y.zone] true rfl rfl eqGuardN HQ.out ?_; simp only [Act.put, List.setIfInBounds_toArray, List.set_cons_zero, List.set_cons_succ, Bool.not_true])
      | go_big_quiet_step (fail)
      | (refine wpQuiet_load_at rfl _ _ rfl (b.add (k * 3)) rfl [Value.string y.name, Value.int .i64 y.room, Value.string y.zone] _ ?_ Tryz.underlying34 rfl node_size ?_; (focus (rintro w5 ⟨n5, rfl⟩; exact hbt5.drewN n5)); simp only [Act.put, List.setIfInBounds_toArray, List.set_cons_zero, List.set_cons_succ]))
     refine wpQuiet_nil ?_
     intro _ hw'
     obtain ⟨nq, hw''⟩ := hw'
     subst hw''
     go_wp2_with fail
     go_roundw
     case rel => exact ⟨k + 1, by omega, by go_num, below_drewN hB5 nq, HN.out⟩
     case measure => simp [intOf]; omega
    ·have HQ := Lib.hid (fun W => (eqInN x y W).trans (by rw [decide_eq_false hxy]))
     have HN := Lib.hid (take_eq_ne hxy HX.out HY.out)
     clear hxy HX HY HT
     go_wp2_with (refine wpList_load_at rfl _ _ rfl (a.add (k * 3)) rfl [Value.string x.name, Value.int .i64 x.room, Value.string x.zone] _ hat Tryz.underlying34 rfl node_size ?_)
     refine wp_region_quiet_lit (by kernel_rfl) (by kernel_rfl) ?_
     repeat (first
      | (refine wpQuiet_neq rfl _ _ _ _ rfl #[.string x.name, .int .i64 x.room, .string x.zone] #[.string y.name, .int .i64 y.room, .string y.zone] false rfl rfl eqGuardN HQ.out ?_; simp only [Act.put, List.setIfInBounds_toArray, List.set_cons_zero, List.set_cons_succ, Bool.not_false])
      | go_big_quiet_step (fail)
      | (refine wpQuiet_load_at rfl _ _ rfl (b.add (k * 3)) rfl [Value.string y.name, Value.int .i64 y.room, Value.string y.zone] _ ?_ Tryz.underlying34 rfl node_size ?_; (focus (rintro w5 ⟨n5, rfl⟩; exact hbt5.drewN n5)); simp only [Act.put, List.setIfInBounds_toArray, List.set_cons_zero, List.set_cons_succ]))
     refine wpQuiet_nil ?_
     intro _ hw'
     obtain ⟨nq, hw''⟩ := hw'
     subst hw''
     go_wp2_with fail
     go_ret
     exact ⟨by rw [decide_eq_false HN.out]; rfl, below_drewN hB5 nq⟩
   ·obtain rfl : k = l.length := by omega
    have HE := Lib.hid (show l = m from by have := HT.out; rwa [List.take_length, HLEN.out, List.take_length] at this)
    clear HT
    go_wp2_with fail
    go_ret
    exact ⟨by rw [decide_eq_true HE.out]; rfl, hbr⟩
 ·have hb : ((l.length : Int) != (m.length : Int)) = true := by rw [bne_iff_ne]; omega
  have HN := Lib.hid (show l ≠ m from fun e => hlen (by rw [e]))
  clear hlen
  go_enter Tryz.func14, Tryz.ntmps14
  go_wp2_with fail
  go_ret
  exact ⟨by rw [decide_eq_false HN.out]; rfl, Below.refl _ _⟩
open Go.RowKit
theorem eqL_any (p q : Option Addr) (c c' : Nat) (l m : List LeaseD) (w : World) (hp : Elts w w.heap.size 3 p (l.map rowL)) (hq : Elts w w.heap.size 3 q (m.map rowL)) (hl : l.length ≤ 4611686018427387904) (hm : m.length ≤ 4611686018427387904) :
  Calls Tryz.prog 15 #[.slice p l.length c, .slice q m.length c'] w fun e w' => e = .returned (.bool (decide (l = m))) ∧ Below w.heap.size w w' := by
 by_cases hlen : l.length = m.length
 ·have hb : ((l.length : Int) != (m.length : Int)) = false := by rw [hlen]; simp
  have h1 : l.length ≤ m.length := by omega
  have h2 : m.length ≤ l.length := by omega
  have HLEN := Lib.hid hlen
  clear hlen
  go_enter Tryz.func15, Tryz.ntmps15
  go_wp2_with fail
  go_loopw [14] (fun i wr => ∃ k : Nat, k ≤ l.length ∧ i = .int .i64 k ∧ Below w.heap.size w wr ∧ Hid (l.take k = m.take k)) (fun i _ => l.length - (intOf i).toNat)
  case atStart => exact ⟨0, Nat.zero_le _, rfl, Below.refl _ _, (show _ = _ from rfl)⟩
  case round =>
   obtain ⟨k, hk, rfl, hbr, HT⟩ := hrel
   by_cases hlt : k < l.length
   ·have hkm : k < m.length := by omega
    have hx : l[k]? = some l[k] := List.getElem?_eq_getElem hlt
    have hy : m[k]? = some m[k] := List.getElem?_eq_getElem hkm
    generalize l[k] = x at *
    generalize m[k] = y at *
    obtain ⟨a, rfl, hab, _, hat⟩ := (hp.below hbr).at_ (k := k) (r := rowL x) (by rw [List.getElem?_map, hx]; rfl)
    obtain ⟨b, rfl, hbb, _, hbt⟩ := (hq.below hbr).at_ (k := k) (r := rowL y) (by rw [List.getElem?_map, hy]; rfl)
    have hB5 := hbr.alloc hbr.size (.cells #[.string x.job, .string x.node, .int .i64 x.till] 37)
    have hbt5 := hbt.below ((Below.refl wr.heap.size wr).alloc (Nat.le_refl _) (.cells #[.string x.job, .string x.node, .int .i64 x.till] 37)) (by rw [block_of_add]; have := hbr.size; omega)
    have HX := Lib.hid hx
    have HY := Lib.hid hy
    clear hx hy hbt
    by_cases hxy : x = y
    ·have HQ := Lib.hid (fun W => (eqInL x y W).trans (by rw [decide_eq_true hxy]))
     have HN := Lib.hid (take_snoc_eq HT.out HX.out (hxy ▸ HY.out))
     clear hxy HX HY HT
     go_wp2_with (refine wpList_load_at rfl _ _ rfl (a.add (k * 3)) rfl [Value.string x.job, Value.string x.node, Value.int .i64 x.till] _ hat Tryz.underlying37 rfl lease_size ?_)
     refine wp_region_quiet_lit (by kernel_rfl) (by kernel_rfl) ?_
     repeat (first
      | (refine wpQuiet_neq rfl _ _ _ _ rfl #[.string x.job, .string x.node, .int .i64 x.till] #[.string y.job, .string y.node, .int .i64 y.till] true rfl rfl eqGuardL HQ.out ?_; simp only [Act.put, List.setIfInBounds_toArray, List.set_cons_zero, List.set_cons_succ, Bool.not_true])
      | go_big_quiet_step (fail)
      | (refine wpQuiet_load_at rfl _ _ rfl (b.add (k * 3)) rfl [Value.string y.job, Value.string y.node, Value.int .i64 y.till] _ ?_ Tryz.underlying37 rfl lease_size ?_; (focus (rintro w5 ⟨n5, rfl⟩; exact hbt5.drewN n5)); simp only [Act.put, List.setIfInBounds_toArray, List.set_cons_zero, List.set_cons_succ]))
     refine wpQuiet_nil ?_
     intro _ hw'
     obtain ⟨nq, hw''⟩ := hw'
     subst hw''
     go_wp2_with fail
     go_roundw
     case rel => exact ⟨k + 1, by omega, by go_num, below_drewN hB5 nq, HN.out⟩
     case measure => simp [intOf]; omega
    ·have HQ := Lib.hid (fun W => (eqInL x y W).trans (by rw [decide_eq_false hxy]))
     have HN := Lib.hid (take_eq_ne hxy HX.out HY.out)
     clear hxy HX HY HT
     go_wp2_with (refine wpList_load_at rfl _ _ rfl (a.add (k * 3)) rfl [Value.string x.job, Value.string x.node, Value.int .i64 x.till] _ hat Tryz.underlying37 rfl lease_size ?_)
     refine wp_region_quiet_lit (by kernel_rfl) (by kernel_rfl) ?_
     repeat (first
      | (refine wpQuiet_neq rfl _ _ _ _ rfl #[.string x.job, .string x.node, .int .i64 x.till] #[.string y.job, .string y.node, .int .i64 y.till] false rfl rfl eqGuardL HQ.out ?_; simp only [Act.put, List.setIfInBounds_toArray, List.set_cons_zero, List.set_cons_succ, Bool.not_false])
      | go_big_quiet_step (fail)
      | (refine wpQuiet_load_at rfl _ _ rfl (b.add (k * 3)) rfl [Value.string y.job, Value.string y.node, Value.int .i64 y.till] _ ?_ Tryz.underlying37 rfl lease_size ?_; (focus (rintro w5 ⟨n5, rfl⟩; exact hbt5.drewN n5)); simp only [Act.put, List.setIfInBounds_toArray, List.set_cons_zero, List.set_cons_succ]))
     refine wpQuiet_nil ?_
     intro _ hw'
     obtain ⟨nq, hw''⟩ := hw'
     subst hw''
     go_wp2_with fail
     go_ret
     exact ⟨by rw [decide_eq_false HN.out]; rfl, below_drewN hB5 nq⟩
   ·obtain rfl : k = l.length := by omega
    have HE := Lib.hid (show l = m from by have := HT.out; rwa [List.take_length, HLEN.out, List.take_length] at this)
    clear HT
    go_wp2_with fail
    go_ret
    exact ⟨by rw [decide_eq_true HE.out]; rfl, hbr⟩
 ·have hb : ((l.length : Int) != (m.length : Int)) = true := by rw [bne_iff_ne]; omega
  have HN := Lib.hid (show l ≠ m from fun e => hlen (by rw [e]))
  clear hlen
  go_enter Tryz.func15, Tryz.ntmps15
  go_wp2_with fail
  go_ret
  exact ⟨by rw [decide_eq_false HN.out]; rfl, Below.refl _ _⟩
end Go.Proofs.YtaioadbenigdpaaGreatDoor
