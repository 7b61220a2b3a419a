/-
  Several texts in one: EqH, EqJ, EqN, EqL, SameW.
-/
import Derived.Test.YtdicoepjkngikaaGreatDoorPkStateB
import Derived.Laws.StructEq
import Derived.Test.YtdicoepjkngikaaGreatDoorPkStateA
/-
  Comparing structs in a region that draws its order; when two jobs, nodes, leases are equal.
-/
set_option linter.unusedVariables false
set_option linter.unusedSimpArgs false
namespace Go.Proofs.YtdicoepjkngikaaGreatDoor
open Go.RowKit
section
variable {P : Program} {ops : Array Oper} {C : World → Prop} {Q : Act → Prop} {o : Oper} {rest : List Oper} {a : Act}
theorem wpQuiet_neq (hw : Region.wanted o (yielded ops a.tmps) = true) (t rt : TypeId) (x y : Operand) (ho : o.op = .binOp .neq t x y rt) (xs ys : Array Value) (b : Bool) (hx : a.eval x = .agg xs) (hy : a.eval y = .agg ys)
    (hm : P.eqGuardType P.depth t = false) (heq : ∀ w, (Op.equalIn 10000 t (.agg xs) (.agg ys)).run P w = .ok b w) (h : wpQuiet P ops C Q rest (a.put o.dst (.bool (!b)))) : wpQuiet P ops C Q (o :: rest) a := by
  refine wpQuiet_do (v := .bool (!b)) hw (fun w _ => ?_) h
  unfold Oper.quietAt execOp
  simp only [ho, hx, hy, Sem.run_bind, run_eqGuard_agg w .neq t x y xs ys hm, Result.andThen_ok, run_neq_struct, heq, Sem.run_pure]
  exact ⟨rfl, rfl⟩
end
theorem tl_eq {a b : ByteArray} : a.toList = b.toList ↔ a = b := ⟨toList_inj, fun h => by rw [h]⟩
theorem tl_beq (a b : ByteArray) : (a.toList == b.toList) = decide (a = b) := by
  by_cases h : a = b
  · subst h; simp
  · rw [decide_eq_false h, beq_eq_false_iff_ne]; exact fun e => h (toList_inj e)
set_option maxRecDepth 100000 in
theorem eqInJ (x y : JobD) (w : World) : (Op.equalIn 10000 49 (.agg (rowJ x).toArray) (.agg (rowJ y).toArray)).run Tryz.prog w = .ok (decide (x = y)) w := by
  have hS : Tryz.prog.underlying 49 = some (.struct (Tryz.prog.fieldsOf 49)) := by kernel_rfl
  have hp : Tryz.prog.stoodInHeld 49 = false := by kernel_rfl
  have us := Tryz.underlying9
  have ui := Tryz.underlying3
  have zs := Tryz.sizeOf9
  have zi := Tryz.sizeOf3
  have gs := Tryz.isAgg9
  have gi := Tryz.isAgg3
  rw [show (10000 : Nat) = 9999 + 1 from rfl, run_equalIn_agg w 9999 49 _ _ hS hp]
  obtain ⟨x0, x1, x2, x3, x4⟩ := x
  obtain ⟨y0, y1, y2, y3, y4⟩ := y
  simp only [Program.fieldsOf, Tryz.underlying49, rowJ]
  go_simp
  try simp only [JobD.mk.injEq]
  by_cases h0 : x0 = y0 <;> by_cases h1 : x1 = y1 <;> by_cases h2 : x2 = y2 <;> by_cases h3 : x3 = y3 <;> by_cases h4 : x4 = y4 <;> simp [tl_eq, h0, h1, h2, h3, h4]
theorem eqGuardJ : Tryz.prog.eqGuardType Tryz.prog.depth 49 = false := by kernel_rfl
set_option maxRecDepth 100000 in
theorem eqInN (x y : NodeD) (w : World) : (Op.equalIn 10000 54 (.agg (rowN x).toArray) (.agg (rowN y).toArray)).run Tryz.prog w = .ok (decide (x = y)) w := by
  have hS : Tryz.prog.underlying 54 = some (.struct (Tryz.prog.fieldsOf 54)) := by kernel_rfl
  have hp : Tryz.prog.stoodInHeld 54 = false := by kernel_rfl
  have us := Tryz.underlying9
  have ui := Tryz.underlying3
  have zs := Tryz.sizeOf9
  have zi := Tryz.sizeOf3
  have gs := Tryz.isAgg9
  have gi := Tryz.isAgg3
  rw [show (10000 : Nat) = 9999 + 1 from rfl, run_equalIn_agg w 9999 54 _ _ hS hp]
  obtain ⟨x0, x1, x2⟩ := x
  obtain ⟨y0, y1, y2⟩ := y
  simp only [Program.fieldsOf, Tryz.underlying54, rowN]
  go_simp
  try simp only [NodeD.mk.injEq]
  by_cases h0 : x0 = y0 <;> by_cases h1 : x1 = y1 <;> by_cases h2 : x2 = y2 <;> simp [tl_eq, h0, h1, h2]
theorem eqGuardN : Tryz.prog.eqGuardType Tryz.prog.depth 54 = false := by kernel_rfl
set_option maxRecDepth 100000 in
theorem eqInL (x y : LeaseD) (w : World) : (Op.equalIn 10000 59 (.agg (rowL x).toArray) (.agg (rowL y).toArray)).run Tryz.prog w = .ok (decide (x = y)) w := by
  have hS : Tryz.prog.underlying 59 = some (.struct (Tryz.prog.fieldsOf 59)) := by kernel_rfl
  have hp : Tryz.prog.stoodInHeld 59 = false := by kernel_rfl
  have us := Tryz.underlying9
  have ui := Tryz.underlying3
  have zs := Tryz.sizeOf9
  have zi := Tryz.sizeOf3
  have gs := Tryz.isAgg9
  have gi := Tryz.isAgg3
  rw [show (10000 : Nat) = 9999 + 1 from rfl, run_equalIn_agg w 9999 59 _ _ hS hp]
  obtain ⟨x0, x1, x2⟩ := x
  obtain ⟨y0, y1, y2⟩ := y
  simp only [Program.fieldsOf, Tryz.underlying59, rowL]
  go_simp
  try simp only [LeaseD.mk.injEq]
  by_cases h0 : x0 = y0 <;> by_cases h1 : x1 = y1 <;> by_cases h2 : x2 = y2 <;> simp [tl_eq, h0, h1, h2]
theorem eqGuardL : Tryz.prog.eqGuardType Tryz.prog.depth 59 = false := by kernel_rfl

theorem take_snoc_eq {α : Type} {l m : List α} {k : Nat} {x : α} (h : l.take k = m.take k) (hx : l[k]? = some x) (hy : m[k]? = some x) : l.take (k + 1) = m.take (k + 1) := by
  rw [List.take_add_one, List.take_add_one, h, hx, hy]
theorem take_eq_ne {α : Type} {l m : List α} {k : Nat} {x y : α} (hne : x ≠ y) (hx : l[k]? = some x) (hy : m[k]? = some y) : l ≠ m := by
  rintro rfl
  rw [hx] at hy
  injection hy with hy
  exact hne hy
end Go.Proofs.YtdicoepjkngikaaGreatDoor

/-
  The contract of the reference's Eq at bracken/api.Job.
-/
set_option linter.unusedVariables false
set_option linter.unusedSimpArgs false
namespace Go.Proofs.YtdicoepjkngikaaGreatDoor
open Go.RowKit
set_option maxHeartbeats 2000000 in
set_option maxRecDepth 100000 in
theorem eqJ_any (p q : Option Addr) (c c' : Nat) (l m : List JobD) (w : World) (hp : Elts w w.heap.size 5 p (l.map rowJ)) (hq : Elts w w.heap.size 5 q (m.map rowJ)) (hl : l.length ≤ 4611686018427387904) (hm : m.length ≤ 4611686018427387904) :
    Calls Tryz.prog 42 #[.slice p l.length c, .slice q m.length c'] w fun e w' => e = .returned (.bool (decide (l = m))) ∧ Below w.heap.size w w' := by
  by_cases hlen : l.length = m.length
  · have hb : ((l.length : Int) != (m.length : Int)) = false := by rw [hlen]; simp
    have h1 : l.length ≤ m.length := by omega
    have h2 : m.length ≤ l.length := by omega
    have HLEN := Lib.hid hlen
    clear hlen
    go_enter Tryz.func42, Tryz.ntmps42
    go_wp2_with fail
    go_loopw [14] (fun i wr => ∃ k : Nat, k ≤ l.length ∧ i = .int .i64 k ∧ Below w.heap.size w wr ∧ Hid (l.take k = m.take k)) (fun i _ => l.length - (intOf i).toNat)
    case atStart => exact ⟨0, Nat.zero_le _, rfl, Below.refl _ _, (show _ = _ from rfl)⟩
    case round =>
      obtain ⟨k, hk, rfl, hbr, HT⟩ := hrel
      by_cases hlt : k < l.length
      · have hkm : k < m.length := by omega
        have hx : l[k]? = some l[k] := List.getElem?_eq_getElem hlt
        have hy : m[k]? = some m[k] := List.getElem?_eq_getElem hkm
        generalize l[k] = x at *
        generalize m[k] = y at *
        obtain ⟨a, rfl, hab, _, hat⟩ := (hp.below hbr).at_ (k := k) (r := rowJ x) (by rw [List.getElem?_map, hx]; rfl)
        obtain ⟨b, rfl, hbb, _, hbt⟩ := (hq.below hbr).at_ (k := k) (r := rowJ y) (by rw [List.getElem?_map, hy]; rfl)
        have hB5 := hbr.alloc hbr.size (.cells #[Value.string x.name, Value.int .i64 x.prio, Value.int .i64 x.need, Value.int .i64 x.tries, Value.string x.tag] 49)
        have hbt5 := hbt.below ((Below.refl wr.heap.size wr).alloc (Nat.le_refl _) (.cells #[Value.string x.name, Value.int .i64 x.prio, Value.int .i64 x.need, Value.int .i64 x.tries, Value.string x.tag] 49)) (by rw [block_of_add]; have := hbr.size; omega)
        have HX := Lib.hid hx
        have HY := Lib.hid hy
        clear hx hy hbt
        by_cases hxy : x = y
        · have HQ := Lib.hid (fun W => (eqInJ x y W).trans (by rw [decide_eq_true hxy]))
          have HN := Lib.hid (take_snoc_eq HT.out HX.out (hxy ▸ HY.out))
          clear hxy HX HY HT
          go_wp2_with (refine wpList_load_at rfl _ _ rfl (a.add (k * 5)) rfl [Value.string x.name, Value.int .i64 x.prio, Value.int .i64 x.need, Value.int .i64 x.tries, Value.string x.tag] _ hat Tryz.underlying49 rfl job_size ?_)
          refine wp_region_quiet_lit (by kernel_rfl) (by kernel_rfl) ?_
          repeat (first
            | (refine wpQuiet_neq rfl _ _ _ _ rfl #[Value.string x.name, Value.int .i64 x.prio, Value.int .i64 x.need, Value.int .i64 x.tries, Value.string x.tag] #[Value.string y.name, Value.int .i64 y.prio, Value.int .i64 y.need, Value.int .i64 y.tries, Value.string y.tag] true rfl rfl eqGuardJ HQ.out ?_; simp only [Act.put, List.setIfInBounds_toArray, List.set_cons_zero, List.set_cons_succ, Bool.not_true])
            | go_big_quiet_step (fail)
            | (refine wpQuiet_load_at rfl _ _ rfl (b.add (k * 5)) rfl [Value.string y.name, Value.int .i64 y.prio, Value.int .i64 y.need, Value.int .i64 y.tries, Value.string y.tag] _ ?_ Tryz.underlying49 rfl job_size ?_; (focus (rintro w5 ⟨n5, rfl⟩; exact hbt5.drewN n5)); simp only [Act.put, List.setIfInBounds_toArray, List.set_cons_zero, List.set_cons_succ]))
          refine wpQuiet_nil ?_
          intro _ hw'
          obtain ⟨nq, hw''⟩ := hw'
          subst hw''
          go_wp2_with fail
          go_roundw
          case rel => exact ⟨k + 1, by omega, by go_num, below_drewN hB5 nq, HN.out⟩
          case measure => simp [intOf]; omega
        · have HQ := Lib.hid (fun W => (eqInJ x y W).trans (by rw [decide_eq_false hxy]))
          have HN := Lib.hid (take_eq_ne hxy HX.out HY.out)
          clear hxy HX HY HT
          go_wp2_with (refine wpList_load_at rfl _ _ rfl (a.add (k * 5)) rfl [Value.string x.name, Value.int .i64 x.prio, Value.int .i64 x.need, Value.int .i64 x.tries, Value.string x.tag] _ hat Tryz.underlying49 rfl job_size ?_)
          refine wp_region_quiet_lit (by kernel_rfl) (by kernel_rfl) ?_
          repeat (first
            | (refine wpQuiet_neq rfl _ _ _ _ rfl #[Value.string x.name, Value.int .i64 x.prio, Value.int .i64 x.need, Value.int .i64 x.tries, Value.string x.tag] #[Value.string y.name, Value.int .i64 y.prio, Value.int .i64 y.need, Value.int .i64 y.tries, Value.string y.tag] false rfl rfl eqGuardJ HQ.out ?_; simp only [Act.put, List.setIfInBounds_toArray, List.set_cons_zero, List.set_cons_succ, Bool.not_false])
            | go_big_quiet_step (fail)
            | (refine wpQuiet_load_at rfl _ _ rfl (b.add (k * 5)) rfl [Value.string y.name, Value.int .i64 y.prio, Value.int .i64 y.need, Value.int .i64 y.tries, Value.string y.tag] _ ?_ Tryz.underlying49 rfl job_size ?_; (focus (rintro w5 ⟨n5, rfl⟩; exact hbt5.drewN n5)); simp only [Act.put, List.setIfInBounds_toArray, List.set_cons_zero, List.set_cons_succ]))
          refine wpQuiet_nil ?_
          intro _ hw'
          obtain ⟨nq, hw''⟩ := hw'
          subst hw''
          go_wp2_with fail
          go_ret
          exact ⟨by rw [decide_eq_false HN.out]; rfl, below_drewN hB5 nq⟩
      · obtain rfl : k = l.length := by omega
        have HE := Lib.hid (show l = m from by have := HT.out; rwa [List.take_length, HLEN.out, List.take_length] at this)
        clear HT
        go_wp2_with fail
        go_ret
        exact ⟨by rw [decide_eq_true HE.out]; rfl, hbr⟩
  · have hb : ((l.length : Int) != (m.length : Int)) = true := by rw [bne_iff_ne]; omega
    have HN := Lib.hid (show l ≠ m from fun e => hlen (by rw [e]))
    clear hlen
    go_enter Tryz.func42, Tryz.ntmps42
    go_wp2_with fail
    go_ret
    exact ⟨by rw [decide_eq_false HN.out]; rfl, Below.refl _ _⟩
end Go.Proofs.YtdicoepjkngikaaGreatDoor

/-
  The contract of the reference's Eq at bracken/api.Node.
-/
set_option linter.unusedVariables false
set_option linter.unusedSimpArgs false
namespace Go.Proofs.YtdicoepjkngikaaGreatDoor
open Go.RowKit
set_option maxHeartbeats 2000000 in
set_option maxRecDepth 100000 in
theorem eqN_any (p q : Option Addr) (c c' : Nat) (l m : List NodeD) (w : World) (hp : Elts w w.heap.size 3 p (l.map rowN)) (hq : Elts w w.heap.size 3 q (m.map rowN)) (hl : l.length ≤ 4611686018427387904) (hm : m.length ≤ 4611686018427387904) :
    Calls Tryz.prog 43 #[.slice p l.length c, .slice q m.length c'] w fun e w' => e = .returned (.bool (decide (l = m))) ∧ Below w.heap.size w w' := by
  by_cases hlen : l.length = m.length
  · have hb : ((l.length : Int) != (m.length : Int)) = false := by rw [hlen]; simp
    have h1 : l.length ≤ m.length := by omega
    have h2 : m.length ≤ l.length := by omega
    have HLEN := Lib.hid hlen
    clear hlen
    go_enter Tryz.func43, Tryz.ntmps43
    go_wp2_with fail
    go_loopw [14] (fun i wr => ∃ k : Nat, k ≤ l.length ∧ i = .int .i64 k ∧ Below w.heap.size w wr ∧ Hid (l.take k = m.take k)) (fun i _ => l.length - (intOf i).toNat)
    case atStart => exact ⟨0, Nat.zero_le _, rfl, Below.refl _ _, (show _ = _ from rfl)⟩
    case round =>
      obtain ⟨k, hk, rfl, hbr, HT⟩ := hrel
      by_cases hlt : k < l.length
      · have hkm : k < m.length := by omega
        have hx : l[k]? = some l[k] := List.getElem?_eq_getElem hlt
        have hy : m[k]? = some m[k] := List.getElem?_eq_getElem hkm
        generalize l[k] = x at *
        generalize m[k] = y at *
        obtain ⟨a, rfl, hab, _, hat⟩ := (hp.below hbr).at_ (k := k) (r := rowN x) (by rw [List.getElem?_map, hx]; rfl)
        obtain ⟨b, rfl, hbb, _, hbt⟩ := (hq.below hbr).at_ (k := k) (r := rowN y) (by rw [List.getElem?_map, hy]; rfl)
        have hB5 := hbr.alloc hbr.size (.cells #[Value.string x.name, Value.int .i64 x.room, Value.string x.zone] 54)
        have hbt5 := hbt.below ((Below.refl wr.heap.size wr).alloc (Nat.le_refl _) (.cells #[Value.string x.name, Value.int .i64 x.room, Value.string x.zone] 54)) (by rw [block_of_add]; have := hbr.size; omega)
        have HX := Lib.hid hx
        have HY := Lib.hid hy
        clear hx hy hbt
        by_cases hxy : x = y
        · have HQ := Lib.hid (fun W => (eqInN x y W).trans (by rw [decide_eq_true hxy]))
          have HN := Lib.hid (take_snoc_eq HT.out HX.out (hxy ▸ HY.out))
          clear hxy HX HY HT
          go_wp2_with (refine wpList_load_at rfl _ _ rfl (a.add (k * 3)) rfl [Value.string x.name, Value.int .i64 x.room, Value.string x.zone] _ hat Tryz.underlying54 rfl node_size ?_)
          refine wp_region_quiet_lit (by kernel_rfl) (by kernel_rfl) ?_
          repeat (first
            | (refine wpQuiet_neq rfl _ _ _ _ rfl #[Value.string x.name, Value.int .i64 x.room, Value.string x.zone] #[Value.string y.name, Value.int .i64 y.room, Value.string y.zone] true rfl rfl eqGuardN HQ.out ?_; simp only [Act.put, List.setIfInBounds_toArray, List.set_cons_zero, List.set_cons_succ, Bool.not_true])
            | go_big_quiet_step (fail)
            | (refine wpQuiet_load_at rfl _ _ rfl (b.add (k * 3)) rfl [Value.string y.name, Value.int .i64 y.room, Value.string y.zone] _ ?_ Tryz.underlying54 rfl node_size ?_; (focus (rintro w5 ⟨n5, rfl⟩; exact hbt5.drewN n5)); simp only [Act.put, List.setIfInBounds_toArray, List.set_cons_zero, List.set_cons_succ]))
          refine wpQuiet_nil ?_
          intro _ hw'
          obtain ⟨nq, hw''⟩ := hw'
          subst hw''
          go_wp2_with fail
          go_roundw
          case rel => exact ⟨k + 1, by omega, by go_num, below_drewN hB5 nq, HN.out⟩
          case measure => simp [intOf]; omega
        · have HQ := Lib.hid (fun W => (eqInN x y W).trans (by rw [decide_eq_false hxy]))
          have HN := Lib.hid (take_eq_ne hxy HX.out HY.out)
          clear hxy HX HY HT
          go_wp2_with (refine wpList_load_at rfl _ _ rfl (a.add (k * 3)) rfl [Value.string x.name, Value.int .i64 x.room, Value.string x.zone] _ hat Tryz.underlying54 rfl node_size ?_)
          refine wp_region_quiet_lit (by kernel_rfl) (by kernel_rfl) ?_
          repeat (first
            | (refine wpQuiet_neq rfl _ _ _ _ rfl #[Value.string x.name, Value.int .i64 x.room, Value.string x.zone] #[Value.string y.name, Value.int .i64 y.room, Value.string y.zone] false rfl rfl eqGuardN HQ.out ?_; simp only [Act.put, List.setIfInBounds_toArray, List.set_cons_zero, List.set_cons_succ, Bool.not_false])
            | go_big_quiet_step (fail)
            | (refine wpQuiet_load_at rfl _ _ rfl (b.add (k * 3)) rfl [Value.string y.name, Value.int .i64 y.room, Value.string y.zone] _ ?_ Tryz.underlying54 rfl node_size ?_; (focus (rintro w5 ⟨n5, rfl⟩; exact hbt5.drewN n5)); simp only [Act.put, List.setIfInBounds_toArray, List.set_cons_zero, List.set_cons_succ]))
          refine wpQuiet_nil ?_
          intro _ hw'
          obtain ⟨nq, hw''⟩ := hw'
          subst hw''
          go_wp2_with fail
          go_ret
          exact ⟨by rw [decide_eq_false HN.out]; rfl, below_drewN hB5 nq⟩
      · obtain rfl : k = l.length := by omega
        have HE := Lib.hid (show l = m from by have := HT.out; rwa [List.take_length, HLEN.out, List.take_length] at this)
        clear HT
        go_wp2_with fail
        go_ret
        exact ⟨by rw [decide_eq_true HE.out]; rfl, hbr⟩
  · have hb : ((l.length : Int) != (m.length : Int)) = true := by rw [bne_iff_ne]; omega
    have HN := Lib.hid (show l ≠ m from fun e => hlen (by rw [e]))
    clear hlen
    go_enter Tryz.func43, Tryz.ntmps43
    go_wp2_with fail
    go_ret
    exact ⟨by rw [decide_eq_false HN.out]; rfl, Below.refl _ _⟩
end Go.Proofs.YtdicoepjkngikaaGreatDoor

/-
  The contract of the reference's Eq at bracken/api.Lease.
-/
set_option linter.unusedVariables false
set_option linter.unusedSimpArgs false
namespace Go.Proofs.YtdicoepjkngikaaGreatDoor
open Go.RowKit
set_option maxHeartbeats 2000000 in
set_option maxRecDepth 100000 in
theorem eqL_any (p q : Option Addr) (c c' : Nat) (l m : List LeaseD) (w : World) (hp : Elts w w.heap.size 3 p (l.map rowL)) (hq : Elts w w.heap.size 3 q (m.map rowL)) (hl : l.length ≤ 4611686018427387904) (hm : m.length ≤ 4611686018427387904) :
    Calls Tryz.prog 44 #[.slice p l.length c, .slice q m.length c'] w fun e w' => e = .returned (.bool (decide (l = m))) ∧ Below w.heap.size w w' := by
  by_cases hlen : l.length = m.length
  · have hb : ((l.length : Int) != (m.length : Int)) = false := by rw [hlen]; simp
    have h1 : l.length ≤ m.length := by omega
    have h2 : m.length ≤ l.length := by omega
    have HLEN := Lib.hid hlen
    clear hlen
    go_enter Tryz.func44, Tryz.ntmps44
    go_wp2_with fail
    go_loopw [14] (fun i wr => ∃ k : Nat, k ≤ l.length ∧ i = .int .i64 k ∧ Below w.heap.size w wr ∧ Hid (l.take k = m.take k)) (fun i _ => l.length - (intOf i).toNat)
    case atStart => exact ⟨0, Nat.zero_le _, rfl, Below.refl _ _, (show _ = _ from rfl)⟩
    case round =>
      obtain ⟨k, hk, rfl, hbr, HT⟩ := hrel
      by_cases hlt : k < l.length
      · have hkm : k < m.length := by omega
        have hx : l[k]? = some l[k] := List.getElem?_eq_getElem hlt
        have hy : m[k]? = some m[k] := List.getElem?_eq_getElem hkm
        generalize l[k] = x at *
        generalize m[k] = y at *
        obtain ⟨a, rfl, hab, _, hat⟩ := (hp.below hbr).at_ (k := k) (r := rowL x) (by rw [List.getElem?_map, hx]; rfl)
        obtain ⟨b, rfl, hbb, _, hbt⟩ := (hq.below hbr).at_ (k := k) (r := rowL y) (by rw [List.getElem?_map, hy]; rfl)
        have hB5 := hbr.alloc hbr.size (.cells #[Value.string x.job, Value.string x.node, Value.int .i64 x.till] 59)
        have hbt5 := hbt.below ((Below.refl wr.heap.size wr).alloc (Nat.le_refl _) (.cells #[Value.string x.job, Value.string x.node, Value.int .i64 x.till] 59)) (by rw [block_of_add]; have := hbr.size; omega)
        have HX := Lib.hid hx
        have HY := Lib.hid hy
        clear hx hy hbt
        by_cases hxy : x = y
        · have HQ := Lib.hid (fun W => (eqInL x y W).trans (by rw [decide_eq_true hxy]))
          have HN := Lib.hid (take_snoc_eq HT.out HX.out (hxy ▸ HY.out))
          clear hxy HX HY HT
          go_wp2_with (refine wpList_load_at rfl _ _ rfl (a.add (k * 3)) rfl [Value.string x.job, Value.string x.node, Value.int .i64 x.till] _ hat Tryz.underlying59 rfl lease_size ?_)
          refine wp_region_quiet_lit (by kernel_rfl) (by kernel_rfl) ?_
          repeat (first
            | (refine wpQuiet_neq rfl _ _ _ _ rfl #[Value.string x.job, Value.string x.node, Value.int .i64 x.till] #[Value.string y.job, Value.string y.node, Value.int .i64 y.till] true rfl rfl eqGuardL HQ.out ?_; simp only [Act.put, List.setIfInBounds_toArray, List.set_cons_zero, List.set_cons_succ, Bool.not_true])
            | go_big_quiet_step (fail)
            | (refine wpQuiet_load_at rfl _ _ rfl (b.add (k * 3)) rfl [Value.string y.job, Value.string y.node, Value.int .i64 y.till] _ ?_ Tryz.underlying59 rfl lease_size ?_; (focus (rintro w5 ⟨n5, rfl⟩; exact hbt5.drewN n5)); simp only [Act.put, List.setIfInBounds_toArray, List.set_cons_zero, List.set_cons_succ]))
          refine wpQuiet_nil ?_
          intro _ hw'
          obtain ⟨nq, hw''⟩ := hw'
          subst hw''
          go_wp2_with fail
          go_roundw
          case rel => exact ⟨k + 1, by omega, by go_num, below_drewN hB5 nq, HN.out⟩
          case measure => simp [intOf]; omega
        · have HQ := Lib.hid (fun W => (eqInL x y W).trans (by rw [decide_eq_false hxy]))
          have HN := Lib.hid (take_eq_ne hxy HX.out HY.out)
          clear hxy HX HY HT
          go_wp2_with (refine wpList_load_at rfl _ _ rfl (a.add (k * 3)) rfl [Value.string x.job, Value.string x.node, Value.int .i64 x.till] _ hat Tryz.underlying59 rfl lease_size ?_)
          refine wp_region_quiet_lit (by kernel_rfl) (by kernel_rfl) ?_
          repeat (first
            | (refine wpQuiet_neq rfl _ _ _ _ rfl #[Value.string x.job, Value.string x.node, Value.int .i64 x.till] #[Value.string y.job, Value.string y.node, Value.int .i64 y.till] false rfl rfl eqGuardL HQ.out ?_; simp only [Act.put, List.setIfInBounds_toArray, List.set_cons_zero, List.set_cons_succ, Bool.not_false])
            | go_big_quiet_step (fail)
            | (refine wpQuiet_load_at rfl _ _ rfl (b.add (k * 3)) rfl [Value.string y.job, Value.string y.node, Value.int .i64 y.till] _ ?_ Tryz.underlying59 rfl lease_size ?_; (focus (rintro w5 ⟨n5, rfl⟩; exact hbt5.drewN n5)); simp only [Act.put, List.setIfInBounds_toArray, List.set_cons_zero, List.set_cons_succ]))
          refine wpQuiet_nil ?_
          intro _ hw'
          obtain ⟨nq, hw''⟩ := hw'
          subst hw''
          go_wp2_with fail
          go_ret
          exact ⟨by rw [decide_eq_false HN.out]; rfl, below_drewN hB5 nq⟩
      · obtain rfl : k = l.length := by omega
        have HE := Lib.hid (show l = m from by have := HT.out; rwa [List.take_length, HLEN.out, List.take_length] at this)
        clear HT
        go_wp2_with fail
        go_ret
        exact ⟨by rw [decide_eq_true HE.out]; rfl, hbr⟩
  · have hb : ((l.length : Int) != (m.length : Int)) = true := by rw [bne_iff_ne]; omega
    have HN := Lib.hid (show l ≠ m from fun e => hlen (by rw [e]))
    clear hlen
    go_enter Tryz.func44, Tryz.ntmps44
    go_wp2_with fail
    go_ret
    exact ⟨by rw [decide_eq_false HN.out]; rfl, Below.refl _ _⟩
end Go.Proofs.YtdicoepjkngikaaGreatDoor

/-
  The contract of the reference's Same: are two states the same?
-/
set_option linter.unusedVariables false
set_option linter.unusedSimpArgs false
namespace Go.Proofs.YtdicoepjkngikaaGreatDoor
open Go.RowKit
set_option maxHeartbeats 4000000 in
set_option maxRecDepth 100000 in
theorem same_any (a b : St) (p1 p2 p3 q1 q2 q3 : Option Addr) (c1 c2 c3 d1 d2 d3 : Nat) (w : World) (ha : StM w w.heap.size p1 p2 p3 a) (hb : StM w w.heap.size q1 q2 q3 b) (hza : StSz a) (hzb : StSz b) :
    Calls Tryz.prog 10 #[.agg #[.int .i64 a.rev, .slice p1 a.jobs.length c1, .slice p2 a.nodes.length c2, .slice p3 a.leases.length c3], .agg #[.int .i64 b.rev, .slice q1 b.jobs.length d1, .slice q2 b.nodes.length d2, .slice q3 b.leases.length d3]] w fun e w' => e = .returned (.bool (decide (a = b))) ∧ Below w.heap.size w w' := by
  have hJ := fun (W : World) (hW : Below w.heap.size w W) => eqJ_any p1 q1 c1 d1 a.jobs b.jobs W ((ha.j.below hW).more hW.size) ((hb.j.below hW).more hW.size) hza.lj hzb.lj
  have hN := fun (W : World) (hW : Below w.heap.size w W) => eqN_any p2 q2 c2 d2 a.nodes b.nodes W ((ha.n.below hW).more hW.size) ((hb.n.below hW).more hW.size) hza.ln hzb.ln
  have hL := fun (W : World) (hW : Below w.heap.size w W) => eqL_any p3 q3 c3 d3 a.leases b.leases W ((ha.l.below hW).more hW.size) ((hb.l.below hW).more hW.size) hza.ll hzb.ll
  have bA := Blk.new w 26 #[Value.int .i64 a.rev, Value.slice p1 a.jobs.length c1, Value.slice p2 a.nodes.length c2, Value.slice p3 a.leases.length c3]
  have hs1 : (w.alloc (.cells #[Value.int .i64 a.rev, Value.slice p1 a.jobs.length c1, Value.slice p2 a.nodes.length c2, Value.slice p3 a.leases.length c3] 26)).heap.size = w.heap.size + 1 := by simp
  have bB := Blk.new (w.alloc (.cells #[Value.int .i64 a.rev, Value.slice p1 a.jobs.length c1, Value.slice p2 a.nodes.length c2, Value.slice p3 a.leases.length c3] 26)) 26 #[Value.int .i64 b.rev, Value.slice q1 b.jobs.length d1, Value.slice q2 b.nodes.length d2, Value.slice q3 b.leases.length d3]
  have bA := bA.alloc (.cells #[Value.int .i64 b.rev, Value.slice q1 b.jobs.length d1, Value.slice q2 b.nodes.length d2, Value.slice q3 b.leases.length d3] 26)
  have hB0 : Below w.heap.size w ((w.alloc (.cells #[Value.int .i64 a.rev, Value.slice p1 a.jobs.length c1, Value.slice p2 a.nodes.length c2, Value.slice p3 a.leases.length c3] 26)).alloc (.cells #[Value.int .i64 b.rev, Value.slice q1 b.jobs.length d1, Value.slice q2 b.nodes.length d2, Value.slice q3 b.leases.length d3] 26)) := ((Below.refl _ _).alloc (Nat.le_refl _) _).alloc (by omega) _
  rw [hs1] at bB
  have HV := Lib.hid (show decide (a = b) = (decide (a.rev = b.rev) && decide (a.jobs = b.jobs) && decide (a.nodes = b.nodes) && decide (a.leases = b.leases)) from by
    cases a; cases b; simp only [St.mk.injEq, Bool.decide_and, Bool.and_assoc])
  have HJ := Lib.hid hJ
  have HN := Lib.hid hN
  have HL := Lib.hid hL
  have HR := Lib.hid (show ((a.rev : Int) == b.rev) = decide (a.rev = b.rev) from by rw [Bool.eq_iff_iff]; simp)
  clear hJ hN hL ha hb hza hzb
  generalize hr : decide (a.rev = b.rev) = xr at *
  generalize hj : decide (a.jobs = b.jobs) = xj at *
  generalize hn : decide (a.nodes = b.nodes) = xn at *
  generalize hl : decide (a.leases = b.leases) = xl at *
  clear hr hj hn hl
  cases xr
  · have hr := HR.out
    go_enter Tryz.func10, Tryz.ntmps10
    go_wp2_with fail
    go_ret
    exact ⟨by rw [HV.out]; rfl, hB0⟩
  · have hr := HR.out
    cases xj
    · go_enter Tryz.func10, Tryz.ntmps10
      go_wp2_with fail
      refine (HJ.out _ hB0).mono ?_
      rintro e w1 ⟨rfl, hb1⟩
      have hB1 := hB0.trans (hb1.mono hB0.size)
      go_wp2_with fail
      go_ret
      exact ⟨by rw [HV.out]; rfl, hB1⟩
    · cases xn
      · go_enter Tryz.func10, Tryz.ntmps10
        go_wp2_with fail
        generalize (w.alloc _).alloc _ = W at *
        refine (HJ.out _ hB0).mono ?_
        rintro e w1 ⟨rfl, hb1⟩
        have hB1 := hB0.trans (hb1.mono hB0.size)
        have bA1 := bA.below hb1 bA.lt
        have bB1 := bB.below hb1 bB.lt
        have e1 : w1.cell? ⟨w.heap.size, 2, none⟩ = some (.slice p2 a.nodes.length c2) := bA1.cell 2
        have e2 : w1.cell? ⟨w.heap.size + 1, 2, none⟩ = some (.slice q2 b.nodes.length d2) := bB1.cell 2
        go_wp2_with fail
        refine (HN.out _ hB1).mono ?_
        rintro e w2 ⟨rfl, hb2⟩
        have hB2 := hB1.trans (hb2.mono hB1.size)
        go_wp2_with fail
        go_ret
        exact ⟨by rw [HV.out]; rfl, hB2⟩
      · go_enter Tryz.func10, Tryz.ntmps10
        go_wp2_with fail
        generalize (w.alloc _).alloc _ = W at *
        refine (HJ.out _ hB0).mono ?_
        rintro e w1 ⟨rfl, hb1⟩
        have hB1 := hB0.trans (hb1.mono hB0.size)
        have bA1 := bA.below hb1 bA.lt
        have bB1 := bB.below hb1 bB.lt
        have e1 : w1.cell? ⟨w.heap.size, 2, none⟩ = some (.slice p2 a.nodes.length c2) := bA1.cell 2
        have e2 : w1.cell? ⟨w.heap.size + 1, 2, none⟩ = some (.slice q2 b.nodes.length d2) := bB1.cell 2
        clear bA bB
        go_wp2_with fail
        refine (HN.out _ hB1).mono ?_
        rintro e w2 ⟨rfl, hb2⟩
        have hB2 := hB1.trans (hb2.mono hB1.size)
        have bA2 := bA1.below hb2 bA1.lt
        have bB2 := bB1.below hb2 bB1.lt
        clear e1 e2
        have e1 : w2.cell? ⟨w.heap.size, 3, none⟩ = some (.slice p3 a.leases.length c3) := bA2.cell 3
        have e2 : w2.cell? ⟨w.heap.size + 1, 3, none⟩ = some (.slice q3 b.leases.length d3) := bB2.cell 3
        go_wp2_with fail
        refine (HL.out _ hB2).mono ?_
        rintro e w3 ⟨rfl, hb3⟩
        have hB3 := hB2.trans (hb3.mono hB2.size)
        go_wp2_with fail
        go_ret
        exact ⟨by rw [HV.out]; rfl, hB3⟩
end Go.Proofs.YtdicoepjkngikaaGreatDoor
