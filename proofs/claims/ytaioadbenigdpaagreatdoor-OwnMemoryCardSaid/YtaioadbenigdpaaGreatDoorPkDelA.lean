/-
  Several texts in one: DelP, DelE, EqE, IxEJ, IxEN, IxEL, IxFJ, IxFN, IxFL, DiffH, DiffJ, DiffN, DiffL.
-/
import Derived.Test.YtaioadbenigdpaaGreatDoorPkStateA
import Derived.Test.YtaioadbenigdpaaGreatDoorPkEq
import Derived.Test.YtaioadbenigdpaaGreatDoorPkIx
import Derived.Test.YtaioadbenigdpaaGreatDoorPkOwn
import Derived.Test.YtaioadbenigdpaaGreatDoorPkElts
import Derived.Test.YtaioadbenigdpaaGreatDoorPkStrs
import Derived.Deep.Onto
set_option linter.unusedVariables false
set_option linter.unusedSimpArgs false
set_option maxHeartbeats 16000000
set_option maxRecDepth 100000
namespace Go.Proofs.YtaioadbenigdpaaGreatDoor
structure DeltaD where
 frm : Int
 upto : Int
 jobs : List JobD
 nodes : List NodeD
 leases : List LeaseD
 gj : List ByteArray
 gn : List ByteArray
 gl : List ByteArray
 deriving DecidableEq
def setOf {α : Type} [DecidableEq α] (a b : List α) : List α := b.filter fun x => !(a.any fun y => decide (x = y))
def goneOf {α : Type} (key : α → ByteArray) (a b : List α) : List ByteArray := (a.filter fun x => !(b.any fun y => decide (key y = key x))).map key
def betw (a b : St) : DeltaD :=
 ⟨a.rev, b.rev, setOf a.jobs b.jobs, setOf a.nodes b.nodes, setOf a.leases b.leases, goneOf JobD.name a.jobs b.jobs, goneOf NodeD.name a.nodes b.nodes, goneOf LeaseD.job a.leases b.leases⟩
def noD : DeltaD := ⟨0, 0, [], [], [], [], [], []⟩
def diffE (a b : St) : Nat := if checkE a ≠ 0 then checkE a else if checkE b ≠ 0 then checkE b else if b.rev ≤ a.rev then 1 else 0
def diffD (a b : St) : DeltaD := if diffE a b = 0 then betw a b else noD
section
variable {α : Type} [DecidableEq α]
theorem setOf_take (a b : List α) (k : Nat) (x : α) (h : b[k]? = some x) : setOf a (b.take (k + 1)) = setOf a (b.take k) ++ (if (a.any fun y => decide (x = y)) = true then [] else [x]) := by
 unfold setOf
 rw [List.take_add_one, h, Option.toList_some, List.filter_append, List.filter_cons, List.filter_nil]
 cases (a.any fun y => decide (x = y)) <;> rfl
omit [DecidableEq α] in
theorem goneOf_take (key : α → ByteArray) (a b : List α) (k : Nat) (x : α) (h : a[k]? = some x) : goneOf key (a.take (k + 1)) b = goneOf key (a.take k) b ++ (if (b.any fun y => decide (key y = key x)) = true then [] else [key x]) := by
 unfold goneOf
 rw [List.take_add_one, h, Option.toList_some, List.filter_append, List.filter_cons, List.filter_nil, List.map_append]
 cases (b.any fun y => decide (key y = key x)) <;> rfl
theorem setOf_len (a b : List α) : (setOf a b).length ≤ b.length := List.length_filter_le _ _
omit [DecidableEq α] in
theorem goneOf_len (key : α → ByteArray) (a b : List α) : (goneOf key a b).length ≤ a.length := by
 unfold goneOf; rw [List.length_map]; exact List.length_filter_le _ _
theorem setOf_mem {a b : List α} {x : α} : x ∈ setOf a b ↔ x ∈ b ∧ x ∉ a := by
 unfold setOf
 rw [List.mem_filter, Bool.not_eq_true', List.any_eq_false]
 constructor
 ·rintro ⟨h1, h2⟩
  exact ⟨h1, fun h => h2 x h (decide_eq_true rfl)⟩
 ·rintro ⟨h1, h2⟩
  exact ⟨h1, fun y hy he => h2 (of_decide_eq_true he ▸ hy)⟩
omit [DecidableEq α] in
theorem goneOf_mem {key : α → ByteArray} {a b : List α} {s : ByteArray} : s ∈ goneOf key a b ↔ (∃ x ∈ a, key x = s) ∧ ∀ y ∈ b, key y ≠ s := by
 unfold goneOf
 rw [List.mem_map]
 constructor
 ·rintro ⟨x, hx, rfl⟩
  rw [List.mem_filter, Bool.not_eq_true', List.any_eq_false] at hx
  exact ⟨⟨x, hx.1, rfl⟩, fun y hy he => hx.2 y hy (decide_eq_true he)⟩
 ·rintro ⟨⟨x, hx, rfl⟩, h⟩
  refine ⟨x, ?_, rfl⟩
  rw [List.mem_filter, Bool.not_eq_true', List.any_eq_false]
  exact ⟨hx, fun y hy he => h y hy (of_decide_eq_true he)⟩
end
def leaseC (l : LeaseD) : Nat := if nameOk l.job && nameOk l.node then (if withinB l.till 0 1099511627776 then 0 else 1) else 4
def goneE (has : ByteArray → Bool) : Option ByteArray → List ByteArray → Nat
 | _, [] => 0
 | p, s :: r => if nameOk s = false then 4 else if badOrd (fun s : ByteArray => s) p s = true then 8 else if has s = true then 7 else goneE has (some s) r
theorem goneE_cons (has : ByteArray → Bool) (p : Option ByteArray) (s : ByteArray) (r : List ByteArray) : goneE has p (s :: r) = if nameOk s = false then 4 else if badOrd (fun s : ByteArray => s) p s = true then 8 else if has s = true then 7 else goneE has (some s) r := rfl
def firstE : List Nat → Nat
 | [] => 0
 | e :: r => if e ≠ 0 then e else firstE r
def hasJn (l : List JobD) (s : ByteArray) : Bool := l.any fun x => decide (x.name = s)
def hasNn (l : List NodeD) (s : ByteArray) : Bool := l.any fun x => decide (x.name = s)
def hasLn (l : List LeaseD) (s : ByteArray) : Bool := l.any fun x => decide (x.job = s)
def deltaEs (d : DeltaD) : List Nat :=
 [rowsE JobD.name jobE none d.jobs, rowsE NodeD.name nodeE none d.nodes, rowsE LeaseD.job leaseC none d.leases, goneE (hasJn d.jobs) none d.gj, goneE (hasNn d.nodes) none d.gn, goneE (hasLn d.leases) none d.gl]
def revOk (d : DeltaD) : Prop := (0 ≤ d.frm ∧ d.frm ≤ 1099511627776) ∧ d.frm + 1 ≤ d.upto ∧ d.upto ≤ 1099511627776
def lenOk (d : DeltaD) : Prop := (d.jobs.length ≤ 40 ∧ d.leases.length ≤ 40 ∧ d.gj.length ≤ 40 ∧ d.gl.length ≤ 40) ∧ d.nodes.length ≤ 20 ∧ d.gn.length ≤ 20
instance (d : DeltaD) : Decidable (revOk d) := by unfold revOk; infer_instance
instance (d : DeltaD) : Decidable (lenOk d) := by unfold lenOk; infer_instance
def deltaE (d : DeltaD) : Nat := if ¬ revOk d then 1 else if ¬ lenOk d then 2 else firstE (deltaEs d)
theorem firstE_zero : ∀ {l : List Nat}, firstE l = 0 → ∀ e ∈ l, e = 0
 | [], _, e, h => by cases h
 | x :: r, h, e, he => by
  unfold firstE at h
  by_cases hx : x ≠ 0
  ·rw [if_pos hx] at h; exact absurd h hx
  ·rw [if_neg hx] at h
   rcases List.mem_cons.1 he with rfl | he
   ·omega
   ·exact firstE_zero h e he
theorem deltaE_zero {d : DeltaD} (h : deltaE d = 0) : revOk d ∧ lenOk d ∧ ∀ e ∈ deltaEs d, e = 0 := by
 unfold deltaE at h
 by_cases h1 : revOk d
 ·rw [if_neg (by simpa using h1)] at h
  by_cases h2 : lenOk d
  ·rw [if_neg (by simpa using h2)] at h
   exact ⟨h1, h2, firstE_zero h⟩
  ·rw [if_pos h2] at h; cases h
 ·rw [if_pos h1] at h; cases h
open Go.RowKit
section
variable {P : Program} {ops : Array Oper} {C : World → Prop} {Q : Act → Prop} {o : Oper} {rest : List Oper} {a : Act}
theorem wpQuiet_eql (hw : Region.wanted o (yielded ops a.tmps) = true) (t rt : TypeId) (x y : Operand) (ho : o.op = .binOp .eql t x y rt) (xs ys : Array Value) (b : Bool) (hx : a.eval x = .agg xs) (hy : a.eval y = .agg ys)
  (hm : P.eqGuardType P.depth t = false) (heq : ∀ w, (Op.equalIn 10000 t (.agg xs) (.agg ys)).run P w = .ok b w) (h : wpQuiet P ops C Q rest (a.put o.dst (.bool b))) : wpQuiet P ops C Q (o :: rest) a := by
 refine wpQuiet_do (v := .bool b) hw (fun w _ => ?_) h
 unfold Oper.quietAt execOp
 simp only [ho, hx, hy, Sem.run_bind, run_eqGuard_agg w .eql t x y xs ys hm, Result.andThen_ok, run_eql_struct, heq, Sem.run_pure]
 exact ⟨rfl, rfl⟩
theorem wpList_eql {w : World} {Q : Exit → Act → World → Prop} (hg : o.guard = none) (t rt : TypeId) (x y : Operand) (ho : o.op = .binOp .eql t x y rt) (xs ys : Array Value) (b : Bool) (hx : a.eval x = .agg xs) (hy : a.eval y = .agg ys)
  (hm : P.eqGuardType P.depth t = false) (heq : ∀ w, (Op.equalIn 10000 t (.agg xs) (.agg ys)).run P w = .ok b w) (h : wpList P ops Q rest (a.put o.dst (.bool b)) w) : wpList P ops Q (o :: rest) a w :=
 wpList_plain hg fun _ hK => by
  unfold Oper.wp execOp
  simp only [ho, hx, hy, Sem.run_bind, run_eqGuard_agg w .eql t x y xs ys hm, Result.andThen_ok, run_eql_struct, heq, Sem.run_pure]
  exact hK _ _ h
end
open Go.RowKit
theorem indexJ_any (x : JobD) (p : Option Addr) (c : Nat) (l : List JobD) (w : World) (hel : Elts w w.heap.size 5 p (l.map rowJ)) (hl : l.length ≤ 4611686018427387904) :
  Calls Tryz.prog 124 #[.slice p l.length c, .agg #[.string x.name, .int .i64 x.prio, .int .i64 x.need, .int .i64 x.tries, .string x.tag]] w fun e w' => e = .returned (.int .i64 (pIx (fun y => decide (x = y)) l 0)) ∧ Below w.heap.size w w' := by
 have hb0 : Below w.heap.size w (w.alloc (.cells #[.string x.name, .int .i64 x.prio, .int .i64 x.need, .int .i64 x.tries, .string x.tag] 31)) := (Below.refl _ _).alloc (Nat.le_refl _) _
 have bx := Blk.new w 31 #[.string x.name, .int .i64 x.prio, .int .i64 x.need, .int .i64 x.tries, .string x.tag]
 go_enter Tryz.func124, Tryz.ntmps124
 go_wp2_with fail
 go_loopw [8] (fun i wr => ∃ k : Nat, k ≤ l.length ∧ i = .int .i64 k ∧ Below w.heap.size w wr ∧ Blk wr w.heap.size 31 #[.string x.name, .int .i64 x.prio, .int .i64 x.need, .int .i64 x.tries, .string x.tag] ∧ Hid (pIx (fun y => decide (x = y)) l 0 = pIx (fun y => decide (x = y)) (l.drop k) k)) (fun i _ => l.length - (intOf i).toNat)
 case atStart => exact ⟨0, Nat.zero_le _, rfl, hb0, bx, (show _ = _ from rfl)⟩
 case round =>
  obtain ⟨k, hk, rfl, hbr, bxr, HR⟩ := hrel
  clear bx hb0
  by_cases hlt : k < l.length
  ·have hx : l[k]? = some l[k] := List.getElem?_eq_getElem hlt
   have hdr := dropAt l k _ hx
   generalize l[k] = y at *
   obtain ⟨a, rfl, hab, _, hat⟩ := (hel.below hbr).at_ (k := k) (r := rowJ y) (by rw [List.getElem?_map, hx]; rfl)
   have hbx := At.blk bxr
   have HR0 := HR.out
   rw [hdr, pIx_cons] at HR0
   have hk0 : (0 : Int) ≤ (k : Int) := by omega
   have hk1 : (k : Int) < (l.length : Int) := by omega
   by_cases hxy : x = y
   ·have HQ := Lib.hid (fun W => (eqInJ x y W).trans (by rw [decide_eq_true hxy]))
    rw [if_pos (decide_eq_true hxy)] at HR0
    have HR1 := Lib.hid HR0
    clear HR0 HR hdr hx hxy
    go_wp2_with fail
    refine wp_region_quiet_lit (by kernel_rfl) (by kernel_rfl) ?_
    repeat (first
     | (refine wpQuiet_eql rfl _ _ _ _ rfl #[.string x.name, .int .i64 x.prio, .int .i64 x.need, .int .i64 x.tries, .string x.tag] #[.string y.name, .int .i64 y.prio, .int .i64 y.need, .int .i64 y.tries, .string y.tag] true rfl rfl eqGuardJ HQ.out ?_; simp only [Act.put, List.setIfInBounds_toArray, List.set_cons_zero, List.set_cons_succ])
     | (refine wpQuiet_load_at rfl _ _ rfl ⟨w.heap.size, 0, none⟩ rfl [Value.string x.name, Value.int .i64 x.prio, Value.int .i64 x.need, Value.int .i64 x.tries, Value.string x.tag] _ ?_ Tryz.underlying31 rfl job_size ?_; (focus (rintro w5 ⟨n5, rfl⟩; exact hbx.drewN n5)); simp only [Act.put, List.setIfInBounds_toArray, List.set_cons_zero, List.set_cons_succ])
     | (refine wpQuiet_load_at rfl _ _ rfl (a.add (k * 5)) rfl [Value.string y.name, Value.int .i64 y.prio, Value.int .i64 y.need, Value.int .i64 y.tries, Value.string y.tag] _ ?_ Tryz.underlying31 rfl job_size ?_; (focus (rintro w5 ⟨n5, rfl⟩; exact hat.drewN n5)); simp only [Act.put, List.setIfInBounds_toArray, List.set_cons_zero, List.set_cons_succ])
     | go_big_quiet_step (fail))
    refine wpQuiet_nil ?_
    intro _ hw'
    obtain ⟨nq, hw''⟩ := hw'
    subst hw''
    go_wp2_with fail
    go_ret
    exact ⟨by rw [HR1.out]; rfl, below_drewN hbr nq⟩
   ·have HQ := Lib.hid (fun W => (eqInJ x y W).trans (by rw [decide_eq_false hxy]))
    rw [if_neg (by simpa using hxy)] at HR0
    have HR1 := Lib.hid HR0
    clear HR0 HR hdr hx hxy
    go_wp2_with fail
    refine wp_region_quiet_lit (by kernel_rfl) (by kernel_rfl) ?_
    repeat (first
     | (refine wpQuiet_eql rfl _ _ _ _ rfl #[.string x.name, .int .i64 x.prio, .int .i64 x.need, .int .i64 x.tries, .string x.tag] #[.string y.name, .int .i64 y.prio, .int .i64 y.need, .int .i64 y.tries, .string y.tag] false rfl rfl eqGuardJ HQ.out ?_; simp only [Act.put, List.setIfInBounds_toArray, List.set_cons_zero, List.set_cons_succ])
     | (refine wpQuiet_load_at rfl _ _ rfl ⟨w.heap.size, 0, none⟩ rfl [Value.string x.name, Value.int .i64 x.prio, Value.int .i64 x.need, Value.int .i64 x.tries, Value.string x.tag] _ ?_ Tryz.underlying31 rfl job_size ?_; (focus (rintro w5 ⟨n5, rfl⟩; exact hbx.drewN n5)); simp only [Act.put, List.setIfInBounds_toArray, List.set_cons_zero, List.set_cons_succ])
     | (refine wpQuiet_load_at rfl _ _ rfl (a.add (k * 5)) rfl [Value.string y.name, Value.int .i64 y.prio, Value.int .i64 y.need, Value.int .i64 y.tries, Value.string y.tag] _ ?_ Tryz.underlying31 rfl job_size ?_; (focus (rintro w5 ⟨n5, rfl⟩; exact hat.drewN n5)); simp only [Act.put, List.setIfInBounds_toArray, List.set_cons_zero, List.set_cons_succ])
     | go_big_quiet_step (fail))
    refine wpQuiet_nil ?_
    intro _ hw'
    obtain ⟨nq, hw''⟩ := hw'
    subst hw''
    go_wp2_with fail
    go_roundw
    case rel => exact ⟨k + 1, by omega, by go_num, below_drewN hbr nq, bxr.below (below_drewN (Below.refl _ _) nq) bxr.lt, HR1.out⟩
    case measure => simp [intOf]; omega
  ·obtain rfl : k = l.length := by omega
   have HR0 := HR.out
   rw [List.drop_length] at HR0
   have HR1 := Lib.hid HR0
   clear HR0 HR
   go_wp2_with fail
   go_ret
   exact ⟨by rw [HR1.out]; rfl, hbr⟩
theorem containsJ_any (x : JobD) (p : Option Addr) (c : Nat) (l : List JobD) (w : World) (hel : Elts w w.heap.size 5 p (l.map rowJ)) (hl : l.length ≤ 4611686018427387904) :
  Calls Tryz.prog 88 #[.slice p l.length c, .agg #[.string x.name, .int .i64 x.prio, .int .i64 x.need, .int .i64 x.tries, .string x.tag]] w fun e w' => e = .returned (.bool (l.any fun y => decide (x = y))) ∧ Below w.heap.size w w' := by
 have hb0 : Below w.heap.size w (w.alloc (.cells #[.string x.name, .int .i64 x.prio, .int .i64 x.need, .int .i64 x.tries, .string x.tag] 31)) := (Below.refl _ _).alloc (Nat.le_refl _) _
 have hc := indexJ_any x p c l _ ((hel.below hb0).more hb0.size) hl
 have ha := pIx_any (fun y => decide (x = y)) l 0
 have hbd := pIx_bd (fun y => decide (x = y)) l 0
 generalize pIx (fun y => decide (x = y)) l 0 = n at *
 have HC := Lib.hid hc
 have HA := Lib.hid ha
 clear hc ha hel
 go_enter Tryz.func88, Tryz.ntmps88
 go_wp2_with fail
 refine HC.out.mono ?_
 rintro e w1 ⟨rfl, hb1⟩
 have hB := hb0.trans (hb1.mono hb0.size)
 go_wp2_with fail
 go_ret
 exact ⟨by rw [← HA.out]; rfl, hB⟩
open Go.RowKit
theorem indexN_any (x : NodeD) (p : Option Addr) (c : Nat) (l : List NodeD) (w : World) (hel : Elts w w.heap.size 3 p (l.map rowN)) (hl : l.length ≤ 4611686018427387904) :
  Calls Tryz.prog 126 #[.slice p l.length c, .agg #[.string x.name, .int .i64 x.room, .string x.zone]] w fun e w' => e = .returned (.int .i64 (pIx (fun y => decide (x = y)) l 0)) ∧ Below w.heap.size w w' := by
 have hb0 : Below w.heap.size w (w.alloc (.cells #[.string x.name, .int .i64 x.room, .string x.zone] 34)) := (Below.refl _ _).alloc (Nat.le_refl _) _
 have bx := Blk.new w 34 #[.string x.name, .int .i64 x.room, .string x.zone]
 go_enter Tryz.func126, Tryz.ntmps126
 go_wp2_with fail
 go_loopw [8] (fun i wr => ∃ k : Nat, k ≤ l.length ∧ i = .int .i64 k ∧ Below w.heap.size w wr ∧ Blk wr w.heap.size 34 #[.string x.name, .int .i64 x.room, .string x.zone] ∧ Hid (pIx (fun y => decide (x = y)) l 0 = pIx (fun y => decide (x = y)) (l.drop k) k)) (fun i _ => l.length - (intOf i).toNat)
 case atStart => exact ⟨0, Nat.zero_le _, rfl, hb0, bx, (show _ = _ from rfl)⟩
 case round =>
  obtain ⟨k, hk, rfl, hbr, bxr, HR⟩ := hrel
  clear bx hb0
  by_cases hlt : k < l.length
  ·have hx : l[k]? = some l[k] := List.getElem?_eq_getElem hlt
   have hdr := dropAt l k _ hx
   generalize l[k] = y at *
   obtain ⟨a, rfl, hab, _, hat⟩ := (hel.below hbr).at_ (k := k) (r := rowN y) (by rw [List.getElem?_map, hx]; rfl)
   have hbx := At.blk bxr
   have HR0 := HR.out
   rw [hdr, pIx_cons] at HR0
   have hk0 : (0 : Int) ≤ (k : Int) := by omega
   have hk1 : (k : Int) < (l.length : Int) := by omega
   by_cases hxy : x = y
   ·have HQ := Lib.hid (fun W => (eqInN x y W).trans (by rw [decide_eq_true hxy]))
    rw [if_pos (decide_eq_true hxy)] at HR0
    have HR1 := Lib.hid HR0
    clear HR0 HR hdr hx hxy
    go_wp2_with fail
    refine wp_region_quiet_lit (by kernel_rfl) (by kernel_rfl) ?_
    repeat (first
     | (refine wpQuiet_eql rfl _ _ _ _ rfl #[.string x.name, .int .i64 x.room, .string x.zone] #[.string y.name, .int .i64 y.room, .string y.zone] true rfl rfl eqGuardN HQ.out ?_; simp only [Act.put, List.setIfInBounds_toArray, List.set_cons_zero, List.set_cons_succ])
     | (refine wpQuiet_load_at rfl _ _ rfl ⟨w.heap.size, 0, none⟩ rfl [Value.string x.name, Value.int .i64 x.room, Value.string x.zone] _ ?_ Tryz.underlying34 rfl node_size ?_; (focus (rintro w5 ⟨n5, rfl⟩; exact hbx.drewN n5)); simp only [Act.put, List.setIfInBounds_toArray, List.set_cons_zero, List.set_cons_succ])
     | (refine wpQuiet_load_at rfl _ _ rfl (a.add (k * 3)) rfl [Value.string y.name, Value.int .i64 y.room, Value.string y.zone] _ ?_ Tryz.underlying34 rfl node_size ?_; (focus (rintro w5 ⟨n5, rfl⟩; exact hat.drewN n5)); simp only [Act.put, List.setIfInBounds_toArray, List.set_cons_zero, List.set_cons_succ])
     | go_big_quiet_step (fail))
    refine wpQuiet_nil ?_
    intro _ hw'
    obtain ⟨nq, hw''⟩ := hw'
    subst hw''
    go_wp2_with fail
    go_ret
    exact ⟨by rw [HR1.out]; rfl, below_drewN hbr nq⟩
   ·have HQ := Lib.hid (fun W => (eqInN x y W).trans (by rw [decide_eq_false hxy]))
    rw [if_neg (by simpa using hxy)] at HR0
    have HR1 := Lib.hid HR0
    clear HR0 HR hdr hx hxy
    go_wp2_with fail
    refine wp_region_quiet_lit (by kernel_rfl) (by kernel_rfl) ?_
    repeat (first
     | (refine wpQuiet_eql rfl _ _ _ _ rfl #[.string x.name, .int .i64 x.room, .string x.zone] #[.string y.name, .int .i64 y.room, .string y.zone] false rfl rfl eqGuardN HQ.out ?_; simp only [Act.put, List.setIfInBounds_toArray, List.set_cons_zero, List.set_cons_succ])
     | (refine wpQuiet_load_at rfl _ _ rfl ⟨w.heap.size, 0, none⟩ rfl [Value.string x.name, Value.int .i64 x.room, Value.string x.zone] _ ?_ Tryz.underlying34 rfl node_size ?_; (focus (rintro w5 ⟨n5, rfl⟩; exact hbx.drewN n5)); simp only [Act.put, List.setIfInBounds_toArray, List.set_cons_zero, List.set_cons_succ])
     | (refine wpQuiet_load_at rfl _ _ rfl (a.add (k * 3)) rfl [Value.string y.name, Value.int .i64 y.room, Value.string y.zone] _ ?_ Tryz.underlying34 rfl node_size ?_; (focus (rintro w5 ⟨n5, rfl⟩; exact hat.drewN n5)); simp only [Act.put, List.setIfInBounds_toArray, List.set_cons_zero, List.set_cons_succ])
     | go_big_quiet_step (fail))
    refine wpQuiet_nil ?_
    intro _ hw'
    obtain ⟨nq, hw''⟩ := hw'
    subst hw''
    go_wp2_with fail
    go_roundw
    case rel => exact ⟨k + 1, by omega, by go_num, below_drewN hbr nq, bxr.below (below_drewN (Below.refl _ _) nq) bxr.lt, HR1.out⟩
    case measure => simp [intOf]; omega
  ·obtain rfl : k = l.length := by omega
   have HR0 := HR.out
   rw [List.drop_length] at HR0
   have HR1 := Lib.hid HR0
   clear HR0 HR
   go_wp2_with fail
   go_ret
   exact ⟨by rw [HR1.out]; rfl, hbr⟩
theorem containsN_any (x : NodeD) (p : Option Addr) (c : Nat) (l : List NodeD) (w : World) (hel : Elts w w.heap.size 3 p (l.map rowN)) (hl : l.length ≤ 4611686018427387904) :
  Calls Tryz.prog 91 #[.slice p l.length c, .agg #[.string x.name, .int .i64 x.room, .string x.zone]] w fun e w' => e = .returned (.bool (l.any fun y => decide (x = y))) ∧ Below w.heap.size w w' := by
 have hb0 : Below w.heap.size w (w.alloc (.cells #[.string x.name, .int .i64 x.room, .string x.zone] 34)) := (Below.refl _ _).alloc (Nat.le_refl _) _
 have hc := indexN_any x p c l _ ((hel.below hb0).more hb0.size) hl
 have ha := pIx_any (fun y => decide (x = y)) l 0
 have hbd := pIx_bd (fun y => decide (x = y)) l 0
 generalize pIx (fun y => decide (x = y)) l 0 = n at *
 have HC := Lib.hid hc
 have HA := Lib.hid ha
 clear hc ha hel
 go_enter Tryz.func91, Tryz.ntmps91
 go_wp2_with fail
 refine HC.out.mono ?_
 rintro e w1 ⟨rfl, hb1⟩
 have hB := hb0.trans (hb1.mono hb0.size)
 go_wp2_with fail
 go_ret
 exact ⟨by rw [← HA.out]; rfl, hB⟩
open Go.RowKit
theorem indexL_any (x : LeaseD) (p : Option Addr) (c : Nat) (l : List LeaseD) (w : World) (hel : Elts w w.heap.size 3 p (l.map rowL)) (hl : l.length ≤ 4611686018427387904) :
  Calls Tryz.prog 128 #[.slice p l.length c, .agg #[.string x.job, .string x.node, .int .i64 x.till]] w fun e w' => e = .returned (.int .i64 (pIx (fun y => decide (x = y)) l 0)) ∧ Below w.heap.size w w' := by
 have hb0 : Below w.heap.size w (w.alloc (.cells #[.string x.job, .string x.node, .int .i64 x.till] 37)) := (Below.refl _ _).alloc (Nat.le_refl _) _
 have bx := Blk.new w 37 #[.string x.job, .string x.node, .int .i64 x.till]
 go_enter Tryz.func128, Tryz.ntmps128
 go_wp2_with fail
 go_loopw [8] (fun i wr => ∃ k : Nat, k ≤ l.length ∧ i = .int .i64 k ∧ Below w.heap.size w wr ∧ Blk wr w.heap.size 37 #[.string x.job, .string x.node, .int .i64 x.till] ∧ Hid (pIx (fun y => decide (x = y)) l 0 = pIx (fun y => decide (x = y)) (l.drop k) k)) (fun i _ => l.length - (intOf i).toNat)
 case atStart => exact ⟨0, Nat.zero_le _, rfl, hb0, bx, (show _ = _ from rfl)⟩
 case round =>
  obtain ⟨k, hk, rfl, hbr, bxr, HR⟩ := hrel
  clear bx hb0
  by_cases hlt : k < l.length
  ·have hx : l[k]? = some l[k] := List.getElem?_eq_getElem hlt
   have hdr := dropAt l k _ hx
   generalize l[k] = y at *
   obtain ⟨a, rfl, hab, _, hat⟩ := (hel.below hbr).at_ (k := k) (r := rowL y) (by rw [List.getElem?_map, hx]; rfl)
   have hbx := At.blk bxr
   have HR0 := HR.out
   rw [hdr, pIx_cons] at HR0
   have hk0 : (0 : Int) ≤ (k : Int) := by omega
   have hk1 : (k : Int) < (l.length : Int) := by omega
   by_cases hxy : x = y
   ·have HQ := Lib.hid (fun W => (eqInL x y W).trans (by rw [decide_eq_true hxy]))
    rw [if_pos (decide_eq_true hxy)] at HR0
    have HR1 := Lib.hid HR0
    clear HR0 HR hdr hx hxy
    go_wp2_with fail
    refine wp_region_quiet_lit (by kernel_rfl) (by kernel_rfl) ?_
    repeat (first
     | (refine wpQuiet_eql rfl _ _ _ _ rfl #[.string x.job, .string x.node, .int .i64 x.till] #[.string y.job, .string y.node, .int .i64 y.till] true rfl rfl eqGuardL HQ.out ?_; simp only [Act.put, List.setIfInBounds_toArray, List.set_cons_zero, List.set_cons_succ])
     | (refine wpQuiet_load_at rfl _ _ rfl ⟨w.heap.size, 0, none⟩ rfl [Value.string x.job, Value.string x.node, Value.int .i64 x.till] _ ?_ Tryz.underlying37 rfl lease_size ?_; (focus (rintro w5 ⟨n5, rfl⟩; exact hbx.drewN n5)); simp only [Act.put, List.setIfInBounds_toArray, List.set_cons_zero, List.set_cons_succ])
     | (refine wpQuiet_load_at rfl _ _ rfl (a.add (k * 3)) rfl [Value.string y.job, Value.string y.node, Value.int .i64 y.till] _ ?_ Tryz.underlying37 rfl lease_size ?_; (focus (rintro w5 ⟨n5, rfl⟩; exact hat.drewN n5)); simp only [Act.put, List.setIfInBounds_toArray, List.set_cons_zero, List.set_cons_succ])
     | go_big_quiet_step (fail))
    refine wpQuiet_nil ?_
    intro _ hw'
    obtain ⟨nq, hw''⟩ := hw'
    subst hw''
    go_wp2_with fail
    go_ret
    exact ⟨by rw [HR1.out]; rfl, below_drewN hbr nq⟩
   ·have HQ := Lib.hid (fun W => (eqInL x y W).trans (by rw [decide_eq_false hxy]))
    rw [if_neg (by simpa using hxy)] at HR0
    have HR1 := Lib.hid HR0
    clear HR0 HR hdr hx hxy
    go_wp2_with fail
    refine wp_region_quiet_lit (by kernel_rfl) (by kernel_rfl) ?_
    repeat (first
     | (refine wpQuiet_eql rfl _ _ _ _ rfl #[.string x.job, .string x.node, .int .i64 x.till] #[.string y.job, .string y.node, .int .i64 y.till] false rfl rfl eqGuardL HQ.out ?_; simp only [Act.put, List.setIfInBounds_toArray, List.set_cons_zero, List.set_cons_succ])
     | (refine wpQuiet_load_at rfl _ _ rfl ⟨w.heap.size, 0, none⟩ rfl [Value.string x.job, Value.string x.node, Value.int .i64 x.till] _ ?_ Tryz.underlying37 rfl lease_size ?_; (focus (rintro w5 ⟨n5, rfl⟩; exact hbx.drewN n5)); simp only [Act.put, List.setIfInBounds_toArray, List.set_cons_zero, List.set_cons_succ])
     | (refine wpQuiet_load_at rfl _ _ rfl (a.add (k * 3)) rfl [Value.string y.job, Value.string y.node, Value.int .i64 y.till] _ ?_ Tryz.underlying37 rfl lease_size ?_; (focus (rintro w5 ⟨n5, rfl⟩; exact hat.drewN n5)); simp only [Act.put, List.setIfInBounds_toArray, List.set_cons_zero, List.set_cons_succ])
     | go_big_quiet_step (fail))
    refine wpQuiet_nil ?_
    intro _ hw'
    obtain ⟨nq, hw''⟩ := hw'
    subst hw''
    go_wp2_with fail
    go_roundw
    case rel => exact ⟨k + 1, by omega, by go_num, below_drewN hbr nq, bxr.below (below_drewN (Below.refl _ _) nq) bxr.lt, HR1.out⟩
    case measure => simp [intOf]; omega
  ·obtain rfl : k = l.length := by omega
   have HR0 := HR.out
   rw [List.drop_length] at HR0
   have HR1 := Lib.hid HR0
   clear HR0 HR
   go_wp2_with fail
   go_ret
   exact ⟨by rw [HR1.out]; rfl, hbr⟩
theorem containsL_any (x : LeaseD) (p : Option Addr) (c : Nat) (l : List LeaseD) (w : World) (hel : Elts w w.heap.size 3 p (l.map rowL)) (hl : l.length ≤ 4611686018427387904) :
  Calls Tryz.prog 94 #[.slice p l.length c, .agg #[.string x.job, .string x.node, .int .i64 x.till]] w fun e w' => e = .returned (.bool (l.any fun y => decide (x = y))) ∧ Below w.heap.size w w' := by
 have hb0 : Below w.heap.size w (w.alloc (.cells #[.string x.job, .string x.node, .int .i64 x.till] 37)) := (Below.refl _ _).alloc (Nat.le_refl _) _
 have hc := indexL_any x p c l _ ((hel.below hb0).more hb0.size) hl
 have ha := pIx_any (fun y => decide (x = y)) l 0
 have hbd := pIx_bd (fun y => decide (x = y)) l 0
 generalize pIx (fun y => decide (x = y)) l 0 = n at *
 have HC := Lib.hid hc
 have HA := Lib.hid ha
 clear hc ha hel
 go_enter Tryz.func94, Tryz.ntmps94
 go_wp2_with fail
 refine HC.out.mono ?_
 rintro e w1 ⟨rfl, hb1⟩
 have hB := hb0.trans (hb1.mono hb0.size)
 go_wp2_with fail
 go_ret
 exact ⟨by rw [← HA.out]; rfl, hB⟩
open Go.RowKit
theorem indexFJ_any (K : FuncId) (caps : Array Value) (f : JobD → Bool) (p : Option Addr) (c : Nat) (l : List JobD) (w : World) (hel : Elts w w.heap.size 5 p (l.map rowJ)) (hl : l.length ≤ 4611686018427387904) (hf : FnOk Tryz.prog w K caps rowJ f l) :
  Calls Tryz.prog 125 #[.slice p l.length c, .func (.func K) #[] caps] w fun e w' => e = .returned (.int .i64 (pIx f l 0)) ∧ Below w.heap.size w w' := by
 have HF := Lib.hid hf.calls
 have hen := hf.enter
 clear hf
 go_enter Tryz.func125, Tryz.ntmps125
 go_wp2_with fail
 go_loopw [8] (fun i wr => ∃ k : Nat, k ≤ l.length ∧ i = .int .i64 k ∧ Below w.heap.size w wr ∧ Hid (pIx f l 0 = pIx f (l.drop k) k)) (fun i _ => l.length - (intOf i).toNat)
 case atStart => exact ⟨0, Nat.zero_le _, rfl, Below.refl _ _, (show _ = _ from rfl)⟩
 case round =>
  obtain ⟨k, hk, rfl, hbr, HR⟩ := hrel
  by_cases hlt : k < l.length
  ·have hx : l[k]? = some l[k] := List.getElem?_eq_getElem hlt
   have hc := HF.out l[k] (List.getElem_mem hlt) wr hbr
   have hdr := dropAt l k _ hx
   generalize l[k] = x at *
   obtain ⟨a, rfl, hab, _, hat⟩ := (hel.below hbr).at_ (k := k) (r := rowJ x) (by rw [List.getElem?_map, hx]; rfl)
   have HR0 := HR.out
   rw [hdr, pIx_cons] at HR0
   cases hp : f x
   ·rw [hp] at hc HR0
    rw [if_neg (by simp)] at HR0
    have HC := Lib.hid hc
    have HR1 := Lib.hid HR0
    clear hc HR0 HR hdr hx hp
    go_wp2_with (refine wpList_load_at rfl _ _ rfl (a.add (k * 5)) rfl [Value.string x.name, Value.int .i64 x.prio, Value.int .i64 x.need, Value.int .i64 x.tries, Value.string x.tag] _ hat Tryz.underlying31 rfl job_size ?_)
    refine HC.out.mono ?_
    rintro e w1 ⟨rfl, hb1⟩
    have hB := hbr.trans (hb1.mono hbr.size)
    clear hb1 hat
    go_wp2_with fail
    go_roundw
    case rel => exact ⟨k + 1, by omega, by go_num, hB, HR1.out⟩
    case measure => simp [intOf]; omega
   ·rw [hp] at hc HR0
    rw [if_pos rfl] at HR0
    have HC := Lib.hid hc
    have HR1 := Lib.hid HR0
    clear hc HR0 HR hdr hx hp
    go_wp2_with (refine wpList_load_at rfl _ _ rfl (a.add (k * 5)) rfl [Value.string x.name, Value.int .i64 x.prio, Value.int .i64 x.need, Value.int .i64 x.tries, Value.string x.tag] _ hat Tryz.underlying31 rfl job_size ?_)
    refine HC.out.mono ?_
    rintro e w1 ⟨rfl, hb1⟩
    have hB := hbr.trans (hb1.mono hbr.size)
    clear hb1 hat
    go_wp2_with fail
    go_ret
    exact ⟨by rw [HR1.out]; rfl, hB⟩
  ·obtain rfl : k = l.length := by omega
   have HR0 := HR.out
   rw [List.drop_length] at HR0
   have HR1 := Lib.hid HR0
   clear HR0 HR
   go_wp2_with fail
   go_ret
   exact ⟨by rw [HR1.out]; rfl, hbr⟩
theorem containsFJ_any (K : FuncId) (caps : Array Value) (f : JobD → Bool) (p : Option Addr) (c : Nat) (l : List JobD) (w : World) (hel : Elts w w.heap.size 5 p (l.map rowJ)) (hl : l.length ≤ 4611686018427387904) (hf : FnOk Tryz.prog w K caps rowJ f l) :
  Calls Tryz.prog 89 #[.slice p l.length c, .func (.func K) #[] caps] w fun e w' => e = .returned (.bool (l.any f)) ∧ Below w.heap.size w w' := by
 have hc := indexFJ_any K caps f p c l w hel hl hf
 have ha := pIx_any f l 0
 have hbd := pIx_bd f l 0
 generalize pIx f l 0 = n at *
 have HC := Lib.hid hc
 have HA := Lib.hid ha
 clear hc ha hf hel
 go_enter Tryz.func89, Tryz.ntmps89
 go_wp2_with fail
 refine HC.out.mono ?_
 rintro e w1 ⟨rfl, hb1⟩
 go_wp2_with fail
 go_ret
 exact ⟨by rw [← HA.out]; rfl, hb1⟩
open Go.RowKit
theorem indexFN_any (K : FuncId) (caps : Array Value) (f : NodeD → Bool) (p : Option Addr) (c : Nat) (l : List NodeD) (w : World) (hel : Elts w w.heap.size 3 p (l.map rowN)) (hl : l.length ≤ 4611686018427387904) (hf : FnOk Tryz.prog w K caps rowN f l) :
  Calls Tryz.prog 127 #[.slice p l.length c, .func (.func K) #[] caps] w fun e w' => e = .returned (.int .i64 (pIx f l 0)) ∧ Below w.heap.size w w' := by
 have HF := Lib.hid hf.calls
 have hen := hf.enter
 clear hf
 go_enter Tryz.func127, Tryz.ntmps127
 go_wp2_with fail
 go_loopw [8] (fun i wr => ∃ k : Nat, k ≤ l.length ∧ i = .int .i64 k ∧ Below w.heap.size w wr ∧ Hid (pIx f l 0 = pIx f (l.drop k) k)) (fun i _ => l.length - (intOf i).toNat)
 case atStart => exact ⟨0, Nat.zero_le _, rfl, Below.refl _ _, (show _ = _ from rfl)⟩
 case round =>
  obtain ⟨k, hk, rfl, hbr, HR⟩ := hrel
  by_cases hlt : k < l.length
  ·have hx : l[k]? = some l[k] := List.getElem?_eq_getElem hlt
   have hc := HF.out l[k] (List.getElem_mem hlt) wr hbr
   have hdr := dropAt l k _ hx
   generalize l[k] = x at *
   obtain ⟨a, rfl, hab, _, hat⟩ := (hel.below hbr).at_ (k := k) (r := rowN x) (by rw [List.getElem?_map, hx]; rfl)
   have HR0 := HR.out
   rw [hdr, pIx_cons] at HR0
   cases hp : f x
   ·rw [hp] at hc HR0
    rw [if_neg (by simp)] at HR0
    have HC := Lib.hid hc
    have HR1 := Lib.hid HR0
    clear hc HR0 HR hdr hx hp
    go_wp2_with (refine wpList_load_at rfl _ _ rfl (a.add (k * 3)) rfl [Value.string x.name, Value.int .i64 x.room, Value.string x.zone] _ hat Tryz.underlying34 rfl node_size ?_)
    refine HC.out.mono ?_
    rintro e w1 ⟨rfl, hb1⟩
    have hB := hbr.trans (hb1.mono hbr.size)
    clear hb1 hat
    go_wp2_with fail
    go_roundw
    case rel => exact ⟨k + 1, by omega, by go_num, hB, HR1.out⟩
    case measure => simp [intOf]; omega
   ·rw [hp] at hc HR0
    rw [if_pos rfl] at HR0
    have HC := Lib.hid hc
    have HR1 := Lib.hid HR0
    clear hc HR0 HR hdr hx hp
    go_wp2_with (refine wpList_load_at rfl _ _ rfl (a.add (k * 3)) rfl [Value.string x.name, Value.int .i64 x.room, Value.string x.zone] _ hat Tryz.underlying34 rfl node_size ?_)
    refine HC.out.mono ?_
    rintro e w1 ⟨rfl, hb1⟩
    have hB := hbr.trans (hb1.mono hbr.size)
    clear hb1 hat
    go_wp2_with fail
    go_ret
    exact ⟨by rw [HR1.out]; rfl, hB⟩
  ·obtain rfl : k = l.length := by omega
   have HR0 := HR.out
   rw [List.drop_length] at HR0
   have HR1 := Lib.hid HR0
   clear HR0 HR
   go_wp2_with fail
   go_ret
   exact ⟨by rw [HR1.out]; rfl, hbr⟩
theorem containsFN_any (K : FuncId) (caps : Array Value) (f : NodeD → Bool) (p : Option Addr) (c : Nat) (l : List NodeD) (w : World) (hel : Elts w w.heap.size 3 p (l.map rowN)) (hl : l.length ≤ 4611686018427387904) (hf : FnOk Tryz.prog w K caps rowN f l) :
  Calls Tryz.prog 92 #[.slice p l.length c, .func (.func K) #[] caps] w fun e w' => e = .returned (.bool (l.any f)) ∧ Below w.heap.size w w' := by
 have hc := indexFN_any K caps f p c l w hel hl hf
 have ha := pIx_any f l 0
 have hbd := pIx_bd f l 0
 generalize pIx f l 0 = n at *
 have HC := Lib.hid hc
 have HA := Lib.hid ha
 clear hc ha hf hel
 go_enter Tryz.func92, Tryz.ntmps92
 go_wp2_with fail
 refine HC.out.mono ?_
 rintro e w1 ⟨rfl, hb1⟩
 go_wp2_with fail
 go_ret
 exact ⟨by rw [← HA.out]; rfl, hb1⟩
open Go.RowKit
theorem indexFL_any (K : FuncId) (caps : Array Value) (f : LeaseD → Bool) (p : Option Addr) (c : Nat) (l : List LeaseD) (w : World) (hel : Elts w w.heap.size 3 p (l.map rowL)) (hl : l.length ≤ 4611686018427387904) (hf : FnOk Tryz.prog w K caps rowL f l) :
  Calls Tryz.prog 120 #[.slice p l.length c, .func (.func K) #[] caps] w fun e w' => e = .returned (.int .i64 (pIx f l 0)) ∧ Below w.heap.size w w' := by
 have HF := Lib.hid hf.calls
 have hen := hf.enter
 clear hf
 go_enter Tryz.func120, Tryz.ntmps120
 go_wp2_with fail
 go_loopw [8] (fun i wr => ∃ k : Nat, k ≤ l.length ∧ i = .int .i64 k ∧ Below w.heap.size w wr ∧ Hid (pIx f l 0 = pIx f (l.drop k) k)) (fun i _ => l.length - (intOf i).toNat)
 case atStart => exact ⟨0, Nat.zero_le _, rfl, Below.refl _ _, (show _ = _ from rfl)⟩
 case round =>
  obtain ⟨k, hk, rfl, hbr, HR⟩ := hrel
  by_cases hlt : k < l.length
  ·have hx : l[k]? = some l[k] := List.getElem?_eq_getElem hlt
   have hc := HF.out l[k] (List.getElem_mem hlt) wr hbr
   have hdr := dropAt l k _ hx
   generalize l[k] = x at *
   obtain ⟨a, rfl, hab, _, hat⟩ := (hel.below hbr).at_ (k := k) (r := rowL x) (by rw [List.getElem?_map, hx]; rfl)
   have HR0 := HR.out
   rw [hdr, pIx_cons] at HR0
   cases hp : f x
   ·rw [hp] at hc HR0
    rw [if_neg (by simp)] at HR0
    have HC := Lib.hid hc
    have HR1 := Lib.hid HR0
    clear hc HR0 HR hdr hx hp
    go_wp2_with (refine wpList_load_at rfl _ _ rfl (a.add (k * 3)) rfl [Value.string x.job, Value.string x.node, Value.int .i64 x.till] _ hat Tryz.underlying37 rfl lease_size ?_)
    refine HC.out.mono ?_
    rintro e w1 ⟨rfl, hb1⟩
    have hB := hbr.trans (hb1.mono hbr.size)
    clear hb1 hat
    go_wp2_with fail
    go_roundw
    case rel => exact ⟨k + 1, by omega, by go_num, hB, HR1.out⟩
    case measure => simp [intOf]; omega
   ·rw [hp] at hc HR0
    rw [if_pos rfl] at HR0
    have HC := Lib.hid hc
    have HR1 := Lib.hid HR0
    clear hc HR0 HR hdr hx hp
    go_wp2_with (refine wpList_load_at rfl _ _ rfl (a.add (k * 3)) rfl [Value.string x.job, Value.string x.node, Value.int .i64 x.till] _ hat Tryz.underlying37 rfl lease_size ?_)
    refine HC.out.mono ?_
    rintro e w1 ⟨rfl, hb1⟩
    have hB := hbr.trans (hb1.mono hbr.size)
    clear hb1 hat
    go_wp2_with fail
    go_ret
    exact ⟨by rw [HR1.out]; rfl, hB⟩
  ·obtain rfl : k = l.length := by omega
   have HR0 := HR.out
   rw [List.drop_length] at HR0
   have HR1 := Lib.hid HR0
   clear HR0 HR
   go_wp2_with fail
   go_ret
   exact ⟨by rw [HR1.out]; rfl, hbr⟩
theorem containsFL_any (K : FuncId) (caps : Array Value) (f : LeaseD → Bool) (p : Option Addr) (c : Nat) (l : List LeaseD) (w : World) (hel : Elts w w.heap.size 3 p (l.map rowL)) (hl : l.length ≤ 4611686018427387904) (hf : FnOk Tryz.prog w K caps rowL f l) :
  Calls Tryz.prog 95 #[.slice p l.length c, .func (.func K) #[] caps] w fun e w' => e = .returned (.bool (l.any f)) ∧ Below w.heap.size w w' := by
 have hc := indexFL_any K caps f p c l w hel hl hf
 have ha := pIx_any f l 0
 have hbd := pIx_bd f l 0
 generalize pIx f l 0 = n at *
 have HC := Lib.hid hc
 have HA := Lib.hid ha
 clear hc ha hf hel
 go_enter Tryz.func95, Tryz.ntmps95
 go_wp2_with fail
 refine HC.out.mono ?_
 rintro e w1 ⟨rfl, hb1⟩
 go_wp2_with fail
 go_ret
 exact ⟨by rw [← HA.out]; rfl, hb1⟩
open Go.RowKit
theorem own_below {a b : World} {base size n : Nat} {e : TypeId} {v : Value} {xs : List Value} (h : a.ownsRow base e size v n xs) (hb : Below a.heap.size a b) : b.ownsRow base e size v n xs :=
 World.ownsRow.kept (row := none) h ⟨hb.os, hb.tape, hb.output, hb.size, fun k hk _ => hb.block k hk⟩ (Classical.em _)
theorem own_form {w : World} {base : Nat} {e : TypeId} {size n : Nat} {v : Value} {xs : List Value} (h : w.ownsRow base e size v n xs) : ∃ p c, v = .slice p n c := by
 rcases h.2 with ⟨rfl, h0⟩ | ⟨g, cap, cur, rfl, _⟩
 ·exact ⟨none, 0, by rw [h0]⟩
 ·exact ⟨_, cap, rfl⟩
theorem OwnR.lower {w : World} {base b c size : Nat} {E : TypeId} {p : Option Addr} {rows : List (List Value)} (h : OwnR w base E size p c rows) (hb : b ≤ base) : OwnR w b E size p c rows := ⟨h.1, World.ownsRow.mono h.2 hb⟩
open Go.RowKit
theorem differFJ_any (gk gx : Nat) (x y : JobD) (w : World) (bk : Blk w gk 78 #[Value.func (.func 30) #[] #[]]) (bx : Blk w gx 31 #[.string x.name, .int .i64 x.prio, .int .i64 x.need, .int .i64 x.tries, .string x.tag]) :
  Calls Tryz.prog 90 #[.agg #[.string y.name, .int .i64 y.prio, .int .i64 y.need, .int .i64 y.tries, .string y.tag], .pointer (some ⟨gk, 0, none⟩), .pointer (some ⟨gx, 0, none⟩)] w fun e w' => e = .returned (.bool (decide (JobD.name y = JobD.name x))) ∧ Below w.heap.size w w' := by
 have hb0 : Below w.heap.size w (w.alloc (.cells #[.string y.name, .int .i64 y.prio, .int .i64 y.need, .int .i64 y.tries, .string y.tag] 31)) := (Below.refl _ _).alloc (Nat.le_refl _) _
 have by0 := Blk.new w 31 #[.string y.name, .int .i64 y.prio, .int .i64 y.need, .int .i64 y.tries, .string y.tag]
 have bk0 := bk.alloc (.cells #[.string y.name, .int .i64 y.prio, .int .i64 y.need, .int .i64 y.tries, .string y.tag] 31)
 have bx0 := bx.alloc (.cells #[.string y.name, .int .i64 y.prio, .int .i64 y.need, .int .i64 y.tries, .string y.tag] 31)
 have HT := Lib.hid (tl_beq (JobD.name y) (JobD.name x))
 go_enter Tryz.func90, Tryz.ntmps90
 go_wp2_with fail
 generalize w.alloc _ = w0 at *
 refine wp_region_abv (by kernel_rfl) (by kernel_rfl) ?_
 repeat (first
  | (refine wpQuiet_load_g (by first | rfl | kernel_rfl) _ _ rfl ⟨w.heap.size, 0, none⟩ rfl [Value.string y.name, Value.int .i64 y.prio, Value.int .i64 y.need, Value.int .i64 y.tries, Value.string y.tag] _ (fun w5 hw5 => At.blk (by0.below hw5 by0.lt)) Tryz.underlying31 rfl job_size ?_; simp only [Act.put, List.setIfInBounds_toArray, List.set_cons_zero, List.set_cons_succ])
  | (refine wpQuiet_load_g (by first | rfl | kernel_rfl) _ _ rfl ⟨gx, 0, none⟩ rfl [Value.string x.name, Value.int .i64 x.prio, Value.int .i64 x.need, Value.int .i64 x.tries, Value.string x.tag] _ (fun w5 hw5 => At.blk (bx0.below hw5 bx0.lt)) Tryz.underlying31 rfl job_size ?_; simp only [Act.put, List.setIfInBounds_toArray, List.set_cons_zero, List.set_cons_succ])
  | (apply wpQuiet_do; (focus (first | rfl | kernel_rfl)); (focus (intro w5 hw5; have hk5 : w5.cell? ⟨gk, 0, none⟩ = some (.func (.func 30) #[] #[]) := (bk0.below hw5 bk0.lt).cell 0; unfold Oper.quietAt; go_simp; first | rfl | exact ⟨rfl, rfl⟩ | (with_reducible refine (jobKey_any x w5).mono ?_; rintro e w8 ⟨rfl, hb8⟩; exact ⟨rfl, Abv.step hw5 hb8⟩) | (with_reducible refine (jobKey_any y w5).mono ?_; rintro e w8 ⟨rfl, hb8⟩; exact ⟨rfl, Abv.step hw5 hb8⟩))); simp only [Act.put, List.setIfInBounds_toArray, List.set_cons_zero, List.set_cons_succ]))
 refine wpQuiet_nil ?_
 intro w7 hw7
 have hb7 := hb0.trans ((show Below w0.heap.size w0 w7 from hw7).mono hb0.size)
 go_wp2_with fail
 go_ret
 exact ⟨by rw [← HT.out]; rfl, hb7⟩
def DiffPostJ (w : World) (a b : List JobD) (e : Ending) (w' : World) : Prop :=
 ∃ p1 c1 p2 c2, e = .returned (.tuple #[.slice p1 (setOf a b).length c1, .slice p2 (goneOf JobD.name a b).length c2]) ∧ OwnR w' w.heap.size 31 5 p1 c1 ((setOf a b).map rowJ) ∧ OwnR w' w.heap.size 9 1 p2 c2 ((goneOf JobD.name a b).map rowS) ∧ Below w.heap.size w w'
theorem differJ_any (p q : Option Addr) (c d : Nat) (a b : List JobD) (w : World) (ha : Elts w w.heap.size 5 p (a.map rowJ)) (hb : Elts w w.heap.size 5 q (b.map rowJ)) (hla : a.length ≤ 1000) (hlb : b.length ≤ 1000) :
  Calls Tryz.prog 53 #[.slice p a.length c, .slice q b.length d, .func (.func 30) #[] #[]] w fun e w' => DiffPostJ w a b e w' := by
 have hb0 : Below w.heap.size w (w.alloc (.cells #[Value.func (.func 30) #[] #[]] 78)) := (Below.refl _ _).alloc (Nat.le_refl _) _
 have bk := Blk.new w 78 #[Value.func (.func 30) #[] #[]]
 obtain ⟨i0, hi, hz0, hz1, hz2⟩ := info_parts job_infoC
 obtain ⟨i1, si, sz0, sz1, sz2⟩ := info_parts string_info
 go_enter Tryz.func53, Tryz.ntmps53
 go_wp2_with fail
 go_loopw [6, 14] (fun v i wr => ∃ (k : Nat) (p1 : Option Addr) (c1 : Nat), k ≤ b.length ∧ v = .slice p1 (setOf a (b.take k)).length c1 ∧ i = .int .i64 k ∧ Below w.heap.size w wr ∧ Blk wr w.heap.size 78 #[Value.func (.func 30) #[] #[]] ∧ wr.ownsRow (w.heap.size + 1) 31 5 v (setOf a (b.take k)).length ((setOf a (b.take k)).map rowJ).flatten) (fun _ i _ => b.length - (intOf i).toNat)
 case atStart => exact ⟨0, none, 0, Nat.zero_le _, rfl, rfl, hb0, bk, World.ownsRow_nil _ _ _ _⟩
 case round =>
  obtain ⟨k, p1, c1, hk, rfl, rfl, hbr, bkr, hO⟩ := hrel
  clear bk hb0
  have hsz1 : w.heap.size + 1 ≤ wr.heap.size := bkr.lt
  by_cases hlt : k < b.length
  ·have hx : b[k]? = some b[k] := List.getElem?_eq_getElem hlt
   have hst := setOf_take a b k _ hx
   have hsl := setOf_len a (b.take k)
   rw [List.length_take, Nat.min_eq_left hk] at hsl
   generalize b[k] = x at *
   generalize hS1 : setOf a (b.take (k + 1)) = S1 at *
   generalize setOf a (b.take k) = S0 at *
   obtain ⟨ad, rfl, hab, _, hat⟩ := (hb.below hbr).at_ (k := k) (r := rowJ x) (by rw [List.getElem?_map, hx]; rfl)
   have bx := Blk.new wr 31 #[.string x.name, .int .i64 x.prio, .int .i64 x.need, .int .i64 x.tries, .string x.tag]
   have bk5 := bkr.alloc (.cells #[.string x.name, .int .i64 x.prio, .int .i64 x.need, .int .i64 x.tries, .string x.tag] 31)
   have hb5 := hbr.alloc hbr.size (.cells #[.string x.name, .int .i64 x.prio, .int .i64 x.need, .int .i64 x.tries, .string x.tag] 31)
   have hO5 := World.ownsRow.alloc hO (.cells #[.string x.name, .int .i64 x.prio, .int .i64 x.need, .int .i64 x.tries, .string x.tag] 31)
   have hk0 : (0 : Int) ≤ (k : Int) := by omega
   have hk1 : (k : Int) < (b.length : Int) := by omega
   have hc := containsJ_any x p c a (wr.alloc (.cells #[.string x.name, .int .i64 x.prio, .int .i64 x.need, .int .i64 x.tries, .string x.tag] 31)) ((ha.below hb5).more hb5.size) (by omega)
   cases hp : (a.any fun y => decide (x = y))
   ·rw [hp] at hc hst
    rw [if_neg (by simp)] at hst
    have HC := Lib.hid hc
    have HS := Lib.hid hst
    clear hc hst hO hp hx
    go_wp2_with (first
     | (refine wpList_load_at rfl _ _ rfl (ad.add (k * 5)) rfl [Value.string x.name, Value.int .i64 x.prio, Value.int .i64 x.need, Value.int .i64 x.tries, Value.string x.tag] _ hat Tryz.underlying31 rfl job_size ?_))
    refine HC.out.mono ?_
    rintro e w1 ⟨rfl, hb1⟩
    have bx1 := bx.below hb1 bx.lt
    have bk1 := bk5.below hb1 bk5.lt
    have hB1 := hb5.trans (hb1.mono hb5.size)
    have hO1 := own_below hO5 hb1
    have hsz2 : w.heap.size + 1 ≤ w1.heap.size := bk1.lt
    clear hb1 hO5 hb5 bx bk5 bkr hat
    go_wp2_with (first
     | (refine wpList_load_blk rfl _ _ rfl wr.heap.size rfl _ _ bx1 _ Tryz.underlying31 rfl job_size ?_)
     | (at_builtin; refine wpList_append_any _ rfl _ _ 22 rfl (w.heap.size + 1) 31 i0 _ 5 56 Tryz.underlying22 hi hz0 hz1 hz2 rfl (by decide) _ S0.length _ rfl (World.ownsRow.alloc hO1 _) _ (some ⟨w1.heap.size, 0, none⟩) 1 1 (rowJ x) rfl (Blk.reads1 (Blk.new w1 31 #[.string x.name, .int .i64 x.prio, .int .i64 x.need, .int .i64 x.tries, .string x.tag]) rfl) (by intro u hu; simp [rowJ] at hu; rcases hu with rfl | rfl | rfl | rfl | rfl <;> rfl) (by unfold maxLen; omega) (by omega) (by simp; omega) ?_))
    intro v2 w2 hO2 hg2 _
    obtain ⟨p2, c2, rfl⟩ := own_form hO2
    have hb2 : Below (w.heap.size + 1) w1 w2 := ((Below.refl _ _).alloc hsz2 _).grown hg2 (by simp; omega) (fun k hk => (World.ownsRow.lt hO1 k hk).1)
    have hB2 : Below w.heap.size w w2 := hB1.trans (hb2.mono (Nat.le_succ _))
    have bk2 := bk1.below hb2 (Nat.lt_succ_self _)
    clear hO1 hg2 hb2
    go_wp2_with fail
    go_roundw
    case rel => exact ⟨k + 1, p2, c2, by omega, by rw [hS1, HS.out]; simp, by go_num, hB2, bk2, by rw [hS1, HS.out]; simpa using hO2⟩
    case measure => simp [intOf]; omega
   ·rw [hp] at hc hst
    rw [if_pos rfl, List.append_nil] at hst
    have HC := Lib.hid hc
    have HS := Lib.hid hst
    clear hc hst hO hp hx
    go_wp2_with (first
     | (refine wpList_load_at rfl _ _ rfl (ad.add (k * 5)) rfl [Value.string x.name, Value.int .i64 x.prio, Value.int .i64 x.need, Value.int .i64 x.tries, Value.string x.tag] _ hat Tryz.underlying31 rfl job_size ?_))
    refine HC.out.mono ?_
    rintro e w1 ⟨rfl, hb1⟩
    have bk1 := bk5.below hb1 bk5.lt
    have hB1 := hb5.trans (hb1.mono hb5.size)
    have hO1 := own_below hO5 hb1
    clear hb1 hO5 hb5 bx bk5 bkr hat
    go_wp2_with fail
    go_roundw
    case rel => exact ⟨k + 1, p1, c1, by omega, by rw [hS1, HS.out], by go_num, hB1, bk1, by rw [hS1, HS.out]; exact hO1⟩
    case measure => simp [intOf]; omega
  ·obtain rfl : k = b.length := by omega
   rw [List.take_length] at hO ⊢
   have hsl := setOf_len a b
   have hOS : OwnR wr (w.heap.size + 1) 31 5 p1 c1 ((setOf a b).map rowJ) := ⟨fun r hr => by obtain ⟨x, _, rfl⟩ := List.mem_map.1 hr; rfl, by rw [List.length_map]; exact hO⟩
   have HO := Lib.hid hOS
   clear hO hOS
   generalize hSS : setOf a b = SS at *
   obtain ⟨wm, rfl⟩ : ∃ wm : World, wm = wr := ⟨_, rfl⟩
   go_wp2_with fail
   go_loopw [7, 29] (fun v i wr => ∃ (k : Nat) (p2 : Option Addr) (c2 : Nat), k ≤ a.length ∧ v = .slice p2 (goneOf JobD.name (a.take k) b).length c2 ∧ i = .int .i64 k ∧ Below wm.heap.size wm wr ∧ wr.ownsRow wm.heap.size 9 1 v (goneOf JobD.name (a.take k) b).length ((goneOf JobD.name (a.take k) b).map rowS).flatten) (fun _ i _ => a.length - (intOf i).toNat)
   case atStart => exact ⟨0, none, 0, Nat.zero_le _, rfl, rfl, Below.refl _ _, World.ownsRow_nil _ _ _ _⟩
   case round =>
    obtain ⟨k, p2, c2, hk, rfl, rfl, hbm, hO⟩ := hrel
    have hwm := hbm.size
    by_cases hlt : k < a.length
    ·have hx : a[k]? = some a[k] := List.getElem?_eq_getElem hlt
     have hst := goneOf_take JobD.name a b k _ hx
     have hgl := goneOf_len JobD.name (a.take k) b
     rw [List.length_take, Nat.min_eq_left hk] at hgl
     generalize a[k] = x at *
     generalize hS1 : goneOf JobD.name (a.take (k + 1)) b = S1 at *
     generalize goneOf JobD.name (a.take k) b = S0 at *
     have hbw := hbr.trans (hbm.mono hbr.size)
     obtain ⟨ad, rfl, hab, _, hat⟩ := (ha.below hbw).at_ (k := k) (r := rowJ x) (by rw [List.getElem?_map, hx]; rfl)
     have bx := Blk.new wr 31 #[.string x.name, .int .i64 x.prio, .int .i64 x.need, .int .i64 x.tries, .string x.tag]
     have bk5 := (bkr.below hbm bkr.lt).alloc (.cells #[.string x.name, .int .i64 x.prio, .int .i64 x.need, .int .i64 x.tries, .string x.tag] 31)
     have hb5 := hbw.alloc hbw.size (.cells #[.string x.name, .int .i64 x.prio, .int .i64 x.need, .int .i64 x.tries, .string x.tag] 31)
     have hm5 := hbm.alloc hbm.size (.cells #[.string x.name, .int .i64 x.prio, .int .i64 x.need, .int .i64 x.tries, .string x.tag] 31)
     have hO5 := World.ownsRow.alloc hO (.cells #[.string x.name, .int .i64 x.prio, .int .i64 x.need, .int .i64 x.tries, .string x.tag] 31)
     have hk0 : (0 : Int) ≤ (k : Int) := by omega
     have hk1 : (k : Int) < (a.length : Int) := by omega
     have hFn : FnOk Tryz.prog (wr.alloc (.cells #[.string x.name, .int .i64 x.prio, .int .i64 x.need, .int .i64 x.tries, .string x.tag] 31)) 90 #[.pointer (some ⟨w.heap.size, 0, none⟩), .pointer (some ⟨wr.heap.size, 0, none⟩)] rowJ (fun y => decide (JobD.name y = JobD.name x)) b :=
      ⟨fun args W => by kernel_rfl, fun y _ W hW => differFJ_any w.heap.size wr.heap.size x y W (bk5.below hW bk5.lt) (bx.below hW bx.lt)⟩
     have hc := containsFJ_any _ _ _ q d b _ ((hb.below hb5).more hb5.size) (by omega) hFn
     clear hFn
     cases hp : (b.any fun y => decide (JobD.name y = JobD.name x))
     ·rw [hp] at hc hst
      rw [if_neg (by simp)] at hst
      have HC := Lib.hid hc
      have HS := Lib.hid hst
      clear hc hst hO hp hx
      go_wp2_with (first
       | (refine wpList_load_at rfl _ _ rfl (ad.add (k * 5)) rfl [Value.string x.name, Value.int .i64 x.prio, Value.int .i64 x.need, Value.int .i64 x.tries, Value.string x.tag] _ hat Tryz.underlying31 rfl job_size ?_))
      refine HC.out.mono ?_
      rintro e w1 ⟨rfl, hb1⟩
      have bx1 := bx.below hb1 bx.lt
      have bk1 := bk5.below hb1 bk5.lt
      have hB1 := hm5.trans (hb1.mono hm5.size)
      have hO1 := own_below hO5 hb1
      have hk5 : w1.cell? ⟨w.heap.size, 0, none⟩ = some (.func (.func 30) #[] #[]) := bk1.cell 0
      clear hb1 hO5 hb5 hm5 bx bk5 hat
      go_wp2_with (first
       | (refine wpList_load_blk rfl _ _ rfl wr.heap.size rfl _ _ bx1 _ Tryz.underlying31 rfl job_size ?_))
      refine (jobKey_any x _).mono ?_
      rintro e w2 ⟨rfl, hb2⟩
      have hB2 := hB1.trans (hb2.mono hB1.size)
      have hO2 := own_below hO1 hb2
      have hsz2 := hB2.size
      clear hb2 hO1 hB1 bx1 bk1 hk5
      go_wp2_with (first
       | (at_builtin; refine wpList_append_any _ rfl _ _ 46 rfl wm.heap.size 9 i1 _ 1 16 Tryz.underlying46 si sz0 sz1 sz2 rfl (by decide) _ S0.length _ rfl (World.ownsRow.alloc hO2 _) _ (some ⟨w2.heap.size, 0, none⟩) 1 1 (rowS (JobD.name x)) rfl (Blk.reads1 (Blk.new w2 9 #[.string (JobD.name x)]) rfl) (by intro u hu; simp [rowS] at hu; subst hu; rfl) (by unfold maxLen; omega) (by omega) (by simp; omega) ?_))
      intro v3 w3 hO3 hg3 _
      obtain ⟨p3, c3, rfl⟩ := own_form hO3
      have hB3 : Below wm.heap.size wm w3 := (hB2.alloc hsz2 _).grown hg3 (by simp; omega) (fun k hk => (World.ownsRow.lt hO2 k hk).1)
      clear hO2 hg3
      go_wp2_with fail
      go_roundw
      case rel => exact ⟨k + 1, p3, c3, by omega, by rw [hS1, HS.out]; simp, by go_num, hB3, by rw [hS1, HS.out]; simpa using hO3⟩
      case measure => simp [intOf]; omega
     ·rw [hp] at hc hst
      rw [if_pos rfl, List.append_nil] at hst
      have HC := Lib.hid hc
      have HS := Lib.hid hst
      clear hc hst hO hp hx
      go_wp2_with (first
       | (refine wpList_load_at rfl _ _ rfl (ad.add (k * 5)) rfl [Value.string x.name, Value.int .i64 x.prio, Value.int .i64 x.need, Value.int .i64 x.tries, Value.string x.tag] _ hat Tryz.underlying31 rfl job_size ?_))
      refine HC.out.mono ?_
      rintro e w1 ⟨rfl, hb1⟩
      have hB1 := hm5.trans (hb1.mono hm5.size)
      have hO1 := own_below hO5 hb1
      clear hb1 hO5 hb5 hm5 bx bk5 hat
      go_wp2_with fail
      go_roundw
      case rel => exact ⟨k + 1, p2, c2, by omega, by rw [hS1, HS.out], by go_num, hB1, by rw [hS1, HS.out]; exact hO1⟩
      case measure => simp [intOf]; omega
    ·obtain rfl : k = a.length := by omega
     rw [List.take_length] at hO ⊢
     have hOG : OwnR wr wm.heap.size 9 1 p2 c2 ((goneOf JobD.name a b).map rowS) := ⟨fun r hr => by obtain ⟨x, _, rfl⟩ := List.mem_map.1 hr; rfl, by rw [List.length_map]; exact hO⟩
     have HG := Lib.hid hOG
     clear hO hOG
     go_wp2_with fail
     go_ret2
     exact ⟨p1, c1, p2, c2, by rw [hSS]; rfl, by rw [hSS]; exact (OwnR.lower HO.out (Nat.le_succ _)).below hbm, OwnR.lower HG.out hbr.size, hbr.trans (hbm.mono hbr.size)⟩
open Go.RowKit
theorem differFN_any (gk gx : Nat) (x y : NodeD) (w : World) (bk : Blk w gk 81 #[Value.func (.func 32) #[] #[]]) (bx : Blk w gx 34 #[.string x.name, .int .i64 x.room, .string x.zone]) :
  Calls Tryz.prog 93 #[.agg #[.string y.name, .int .i64 y.room, .string y.zone], .pointer (some ⟨gk, 0, none⟩), .pointer (some ⟨gx, 0, none⟩)] w fun e w' => e = .returned (.bool (decide (NodeD.name y = NodeD.name x))) ∧ Below w.heap.size w w' := by
 have hb0 : Below w.heap.size w (w.alloc (.cells #[.string y.name, .int .i64 y.room, .string y.zone] 34)) := (Below.refl _ _).alloc (Nat.le_refl _) _
 have by0 := Blk.new w 34 #[.string y.name, .int .i64 y.room, .string y.zone]
 have bk0 := bk.alloc (.cells #[.string y.name, .int .i64 y.room, .string y.zone] 34)
 have bx0 := bx.alloc (.cells #[.string y.name, .int .i64 y.room, .string y.zone] 34)
 have HT := Lib.hid (tl_beq (NodeD.name y) (NodeD.name x))
 go_enter Tryz.func93, Tryz.ntmps93
 go_wp2_with fail
 generalize w.alloc _ = w0 at *
 refine wp_region_abv (by kernel_rfl) (by kernel_rfl) ?_
 repeat (first
  | (refine wpQuiet_load_g (by first | rfl | kernel_rfl) _ _ rfl ⟨w.heap.size, 0, none⟩ rfl [Value.string y.name, Value.int .i64 y.room, Value.string y.zone] _ (fun w5 hw5 => At.blk (by0.below hw5 by0.lt)) Tryz.underlying34 rfl node_size ?_; simp only [Act.put, List.setIfInBounds_toArray, List.set_cons_zero, List.set_cons_succ])
  | (refine wpQuiet_load_g (by first | rfl | kernel_rfl) _ _ rfl ⟨gx, 0, none⟩ rfl [Value.string x.name, Value.int .i64 x.room, Value.string x.zone] _ (fun w5 hw5 => At.blk (bx0.below hw5 bx0.lt)) Tryz.underlying34 rfl node_size ?_; simp only [Act.put, List.setIfInBounds_toArray, List.set_cons_zero, List.set_cons_succ])
  | (apply wpQuiet_do; (focus (first | rfl | kernel_rfl)); (focus (intro w5 hw5; have hk5 : w5.cell? ⟨gk, 0, none⟩ = some (.func (.func 32) #[] #[]) := (bk0.below hw5 bk0.lt).cell 0; unfold Oper.quietAt; go_simp; first | rfl | exact ⟨rfl, rfl⟩ | (with_reducible refine (nodeKey_any x w5).mono ?_; rintro e w8 ⟨rfl, hb8⟩; exact ⟨rfl, Abv.step hw5 hb8⟩) | (with_reducible refine (nodeKey_any y w5).mono ?_; rintro e w8 ⟨rfl, hb8⟩; exact ⟨rfl, Abv.step hw5 hb8⟩))); simp only [Act.put, List.setIfInBounds_toArray, List.set_cons_zero, List.set_cons_succ]))
 refine wpQuiet_nil ?_
 intro w7 hw7
 have hb7 := hb0.trans ((show Below w0.heap.size w0 w7 from hw7).mono hb0.size)
 go_wp2_with fail
 go_ret
 exact ⟨by rw [← HT.out]; rfl, hb7⟩
def DiffPostN (w : World) (a b : List NodeD) (e : Ending) (w' : World) : Prop :=
 ∃ p1 c1 p2 c2, e = .returned (.tuple #[.slice p1 (setOf a b).length c1, .slice p2 (goneOf NodeD.name a b).length c2]) ∧ OwnR w' w.heap.size 34 3 p1 c1 ((setOf a b).map rowN) ∧ OwnR w' w.heap.size 9 1 p2 c2 ((goneOf NodeD.name a b).map rowS) ∧ Below w.heap.size w w'
theorem differN_any (p q : Option Addr) (c d : Nat) (a b : List NodeD) (w : World) (ha : Elts w w.heap.size 3 p (a.map rowN)) (hb : Elts w w.heap.size 3 q (b.map rowN)) (hla : a.length ≤ 1000) (hlb : b.length ≤ 1000) :
  Calls Tryz.prog 54 #[.slice p a.length c, .slice q b.length d, .func (.func 32) #[] #[]] w fun e w' => DiffPostN w a b e w' := by
 have hb0 : Below w.heap.size w (w.alloc (.cells #[Value.func (.func 32) #[] #[]] 81)) := (Below.refl _ _).alloc (Nat.le_refl _) _
 have bk := Blk.new w 81 #[Value.func (.func 32) #[] #[]]
 obtain ⟨i0, hi, hz0, hz1, hz2⟩ := info_parts node_infoC
 obtain ⟨i1, si, sz0, sz1, sz2⟩ := info_parts string_info
 go_enter Tryz.func54, Tryz.ntmps54
 go_wp2_with fail
 go_loopw [6, 14] (fun v i wr => ∃ (k : Nat) (p1 : Option Addr) (c1 : Nat), k ≤ b.length ∧ v = .slice p1 (setOf a (b.take k)).length c1 ∧ i = .int .i64 k ∧ Below w.heap.size w wr ∧ Blk wr w.heap.size 81 #[Value.func (.func 32) #[] #[]] ∧ wr.ownsRow (w.heap.size + 1) 34 3 v (setOf a (b.take k)).length ((setOf a (b.take k)).map rowN).flatten) (fun _ i _ => b.length - (intOf i).toNat)
 case atStart => exact ⟨0, none, 0, Nat.zero_le _, rfl, rfl, hb0, bk, World.ownsRow_nil _ _ _ _⟩
 case round =>
  obtain ⟨k, p1, c1, hk, rfl, rfl, hbr, bkr, hO⟩ := hrel
  clear bk hb0
  have hsz1 : w.heap.size + 1 ≤ wr.heap.size := bkr.lt
  by_cases hlt : k < b.length
  ·have hx : b[k]? = some b[k] := List.getElem?_eq_getElem hlt
   have hst := setOf_take a b k _ hx
   have hsl := setOf_len a (b.take k)
   rw [List.length_take, Nat.min_eq_left hk] at hsl
   generalize b[k] = x at *
   generalize hS1 : setOf a (b.take (k + 1)) = S1 at *
   generalize setOf a (b.take k) = S0 at *
   obtain ⟨ad, rfl, hab, _, hat⟩ := (hb.below hbr).at_ (k := k) (r := rowN x) (by rw [List.getElem?_map, hx]; rfl)
   have bx := Blk.new wr 34 #[.string x.name, .int .i64 x.room, .string x.zone]
   have bk5 := bkr.alloc (.cells #[.string x.name, .int .i64 x.room, .string x.zone] 34)
   have hb5 := hbr.alloc hbr.size (.cells #[.string x.name, .int .i64 x.room, .string x.zone] 34)
   have hO5 := World.ownsRow.alloc hO (.cells #[.string x.name, .int .i64 x.room, .string x.zone] 34)
   have hk0 : (0 : Int) ≤ (k : Int) := by omega
   have hk1 : (k : Int) < (b.length : Int) := by omega
   have hc := containsN_any x p c a (wr.alloc (.cells #[.string x.name, .int .i64 x.room, .string x.zone] 34)) ((ha.below hb5).more hb5.size) (by omega)
   cases hp : (a.any fun y => decide (x = y))
   ·rw [hp] at hc hst
    rw [if_neg (by simp)] at hst
    have HC := Lib.hid hc
    have HS := Lib.hid hst
    clear hc hst hO hp hx
    go_wp2_with (first
     | (refine wpList_load_at rfl _ _ rfl (ad.add (k * 3)) rfl [Value.string x.name, Value.int .i64 x.room, Value.string x.zone] _ hat Tryz.underlying34 rfl node_size ?_))
    refine HC.out.mono ?_
    rintro e w1 ⟨rfl, hb1⟩
    have bx1 := bx.below hb1 bx.lt
    have bk1 := bk5.below hb1 bk5.lt
    have hB1 := hb5.trans (hb1.mono hb5.size)
    have hO1 := own_below hO5 hb1
    have hsz2 : w.heap.size + 1 ≤ w1.heap.size := bk1.lt
    clear hb1 hO5 hb5 bx bk5 bkr hat
    go_wp2_with (first
     | (refine wpList_load_blk rfl _ _ rfl wr.heap.size rfl _ _ bx1 _ Tryz.underlying34 rfl node_size ?_)
     | (at_builtin; refine wpList_append_any _ rfl _ _ 23 rfl (w.heap.size + 1) 34 i0 _ 3 40 Tryz.underlying23 hi hz0 hz1 hz2 rfl (by decide) _ S0.length _ rfl (World.ownsRow.alloc hO1 _) _ (some ⟨w1.heap.size, 0, none⟩) 1 1 (rowN x) rfl (Blk.reads1 (Blk.new w1 34 #[.string x.name, .int .i64 x.room, .string x.zone]) rfl) (by intro u hu; simp [rowN] at hu; rcases hu with rfl | rfl | rfl <;> rfl) (by unfold maxLen; omega) (by omega) (by simp; omega) ?_))
    intro v2 w2 hO2 hg2 _
    obtain ⟨p2, c2, rfl⟩ := own_form hO2
    have hb2 : Below (w.heap.size + 1) w1 w2 := ((Below.refl _ _).alloc hsz2 _).grown hg2 (by simp; omega) (fun k hk => (World.ownsRow.lt hO1 k hk).1)
    have hB2 : Below w.heap.size w w2 := hB1.trans (hb2.mono (Nat.le_succ _))
    have bk2 := bk1.below hb2 (Nat.lt_succ_self _)
    clear hO1 hg2 hb2
    go_wp2_with fail
    go_roundw
    case rel => exact ⟨k + 1, p2, c2, by omega, by rw [hS1, HS.out]; simp, by go_num, hB2, bk2, by rw [hS1, HS.out]; simpa using hO2⟩
    case measure => simp [intOf]; omega
   ·rw [hp] at hc hst
    rw [if_pos rfl, List.append_nil] at hst
    have HC := Lib.hid hc
    have HS := Lib.hid hst
    clear hc hst hO hp hx
    go_wp2_with (first
     | (refine wpList_load_at rfl _ _ rfl (ad.add (k * 3)) rfl [Value.string x.name, Value.int .i64 x.room, Value.string x.zone] _ hat Tryz.underlying34 rfl node_size ?_))
    refine HC.out.mono ?_
    rintro e w1 ⟨rfl, hb1⟩
    have bk1 := bk5.below hb1 bk5.lt
    have hB1 := hb5.trans (hb1.mono hb5.size)
    have hO1 := own_below hO5 hb1
    clear hb1 hO5 hb5 bx bk5 bkr hat
    go_wp2_with fail
    go_roundw
    case rel => exact ⟨k + 1, p1, c1, by omega, by rw [hS1, HS.out], by go_num, hB1, bk1, by rw [hS1, HS.out]; exact hO1⟩
    case measure => simp [intOf]; omega
  ·obtain rfl : k = b.length := by omega
   rw [List.take_length] at hO ⊢
   have hsl := setOf_len a b
   have hOS : OwnR wr (w.heap.size + 1) 34 3 p1 c1 ((setOf a b).map rowN) := ⟨fun r hr => by obtain ⟨x, _, rfl⟩ := List.mem_map.1 hr; rfl, by rw [List.length_map]; exact hO⟩
   have HO := Lib.hid hOS
   clear hO hOS
   generalize hSS : setOf a b = SS at *
   obtain ⟨wm, rfl⟩ : ∃ wm : World, wm = wr := ⟨_, rfl⟩
   go_wp2_with fail
   go_loopw [7, 29] (fun v i wr => ∃ (k : Nat) (p2 : Option Addr) (c2 : Nat), k ≤ a.length ∧ v = .slice p2 (goneOf NodeD.name (a.take k) b).length c2 ∧ i = .int .i64 k ∧ Below wm.heap.size wm wr ∧ wr.ownsRow wm.heap.size 9 1 v (goneOf NodeD.name (a.take k) b).length ((goneOf NodeD.name (a.take k) b).map rowS).flatten) (fun _ i _ => a.length - (intOf i).toNat)
   case atStart => exact ⟨0, none, 0, Nat.zero_le _, rfl, rfl, Below.refl _ _, World.ownsRow_nil _ _ _ _⟩
   case round =>
    obtain ⟨k, p2, c2, hk, rfl, rfl, hbm, hO⟩ := hrel
    have hwm := hbm.size
    by_cases hlt : k < a.length
    ·have hx : a[k]? = some a[k] := List.getElem?_eq_getElem hlt
     have hst := goneOf_take NodeD.name a b k _ hx
     have hgl := goneOf_len NodeD.name (a.take k) b
     rw [List.length_take, Nat.min_eq_left hk] at hgl
     generalize a[k] = x at *
     generalize hS1 : goneOf NodeD.name (a.take (k + 1)) b = S1 at *
     generalize goneOf NodeD.name (a.take k) b = S0 at *
     have hbw := hbr.trans (hbm.mono hbr.size)
     obtain ⟨ad, rfl, hab, _, hat⟩ := (ha.below hbw).at_ (k := k) (r := rowN x) (by rw [List.getElem?_map, hx]; rfl)
     have bx := Blk.new wr 34 #[.string x.name, .int .i64 x.room, .string x.zone]
     have bk5 := (bkr.below hbm bkr.lt).alloc (.cells #[.string x.name, .int .i64 x.room, .string x.zone] 34)
     have hb5 := hbw.alloc hbw.size (.cells #[.string x.name, .int .i64 x.room, .string x.zone] 34)
     have hm5 := hbm.alloc hbm.size (.cells #[.string x.name, .int .i64 x.room, .string x.zone] 34)
     have hO5 := World.ownsRow.alloc hO (.cells #[.string x.name, .int .i64 x.room, .string x.zone] 34)
     have hk0 : (0 : Int) ≤ (k : Int) := by omega
     have hk1 : (k : Int) < (a.length : Int) := by omega
     have hFn : FnOk Tryz.prog (wr.alloc (.cells #[.string x.name, .int .i64 x.room, .string x.zone] 34)) 93 #[.pointer (some ⟨w.heap.size, 0, none⟩), .pointer (some ⟨wr.heap.size, 0, none⟩)] rowN (fun y => decide (NodeD.name y = NodeD.name x)) b :=
      ⟨fun args W => by kernel_rfl, fun y _ W hW => differFN_any w.heap.size wr.heap.size x y W (bk5.below hW bk5.lt) (bx.below hW bx.lt)⟩
     have hc := containsFN_any _ _ _ q d b _ ((hb.below hb5).more hb5.size) (by omega) hFn
     clear hFn
     cases hp : (b.any fun y => decide (NodeD.name y = NodeD.name x))
     ·rw [hp] at hc hst
      rw [if_neg (by simp)] at hst
      have HC := Lib.hid hc
      have HS := Lib.hid hst
      clear hc hst hO hp hx
      go_wp2_with (first
       | (refine wpList_load_at rfl _ _ rfl (ad.add (k * 3)) rfl [Value.string x.name, Value.int .i64 x.room, Value.string x.zone] _ hat Tryz.underlying34 rfl node_size ?_))
      refine HC.out.mono ?_
      rintro e w1 ⟨rfl, hb1⟩
      have bx1 := bx.below hb1 bx.lt
      have bk1 := bk5.below hb1 bk5.lt
      have hB1 := hm5.trans (hb1.mono hm5.size)
      have hO1 := own_below hO5 hb1
      have hk5 : w1.cell? ⟨w.heap.size, 0, none⟩ = some (.func (.func 32) #[] #[]) := bk1.cell 0
      clear hb1 hO5 hb5 hm5 bx bk5 hat
      go_wp2_with (first
       | (refine wpList_load_blk rfl _ _ rfl wr.heap.size rfl _ _ bx1 _ Tryz.underlying34 rfl node_size ?_))
      refine (nodeKey_any x _).mono ?_
      rintro e w2 ⟨rfl, hb2⟩
      have hB2 := hB1.trans (hb2.mono hB1.size)
      have hO2 := own_below hO1 hb2
      have hsz2 := hB2.size
      clear hb2 hO1 hB1 bx1 bk1 hk5
      go_wp2_with (first
       | (at_builtin; refine wpList_append_any _ rfl _ _ 46 rfl wm.heap.size 9 i1 _ 1 16 Tryz.underlying46 si sz0 sz1 sz2 rfl (by decide) _ S0.length _ rfl (World.ownsRow.alloc hO2 _) _ (some ⟨w2.heap.size, 0, none⟩) 1 1 (rowS (NodeD.name x)) rfl (Blk.reads1 (Blk.new w2 9 #[.string (NodeD.name x)]) rfl) (by intro u hu; simp [rowS] at hu; subst hu; rfl) (by unfold maxLen; omega) (by omega) (by simp; omega) ?_))
      intro v3 w3 hO3 hg3 _
      obtain ⟨p3, c3, rfl⟩ := own_form hO3
      have hB3 : Below wm.heap.size wm w3 := (hB2.alloc hsz2 _).grown hg3 (by simp; omega) (fun k hk => (World.ownsRow.lt hO2 k hk).1)
      clear hO2 hg3
      go_wp2_with fail
      go_roundw
      case rel => exact ⟨k + 1, p3, c3, by omega, by rw [hS1, HS.out]; simp, by go_num, hB3, by rw [hS1, HS.out]; simpa using hO3⟩
      case measure => simp [intOf]; omega
     ·rw [hp] at hc hst
      rw [if_pos rfl, List.append_nil] at hst
      have HC := Lib.hid hc
      have HS := Lib.hid hst
      clear hc hst hO hp hx
      go_wp2_with (first
       | (refine wpList_load_at rfl _ _ rfl (ad.add (k * 3)) rfl [Value.string x.name, Value.int .i64 x.room, Value.string x.zone] _ hat Tryz.underlying34 rfl node_size ?_))
      refine HC.out.mono ?_
      rintro e w1 ⟨rfl, hb1⟩
      have hB1 := hm5.trans (hb1.mono hm5.size)
      have hO1 := own_below hO5 hb1
      clear hb1 hO5 hb5 hm5 bx bk5 hat
      go_wp2_with fail
      go_roundw
      case rel => exact ⟨k + 1, p2, c2, by omega, by rw [hS1, HS.out], by go_num, hB1, by rw [hS1, HS.out]; exact hO1⟩
      case measure => simp [intOf]; omega
    ·obtain rfl : k = a.length := by omega
     rw [List.take_length] at hO ⊢
     have hOG : OwnR wr wm.heap.size 9 1 p2 c2 ((goneOf NodeD.name a b).map rowS) := ⟨fun r hr => by obtain ⟨x, _, rfl⟩ := List.mem_map.1 hr; rfl, by rw [List.length_map]; exact hO⟩
     have HG := Lib.hid hOG
     clear hO hOG
     go_wp2_with fail
     go_ret2
     exact ⟨p1, c1, p2, c2, by rw [hSS]; rfl, by rw [hSS]; exact (OwnR.lower HO.out (Nat.le_succ _)).below hbm, OwnR.lower HG.out hbr.size, hbr.trans (hbm.mono hbr.size)⟩
open Go.RowKit
theorem differFL_any (gk gx : Nat) (x y : LeaseD) (w : World) (bk : Blk w gk 84 #[Value.func (.func 34) #[] #[]]) (bx : Blk w gx 37 #[.string x.job, .string x.node, .int .i64 x.till]) :
  Calls Tryz.prog 96 #[.agg #[.string y.job, .string y.node, .int .i64 y.till], .pointer (some ⟨gk, 0, none⟩), .pointer (some ⟨gx, 0, none⟩)] w fun e w' => e = .returned (.bool (decide (LeaseD.job y = LeaseD.job x))) ∧ Below w.heap.size w w' := by
 have hb0 : Below w.heap.size w (w.alloc (.cells #[.string y.job, .string y.node, .int .i64 y.till] 37)) := (Below.refl _ _).alloc (Nat.le_refl _) _
 have by0 := Blk.new w 37 #[.string y.job, .string y.node, .int .i64 y.till]
 have bk0 := bk.alloc (.cells #[.string y.job, .string y.node, .int .i64 y.till] 37)
 have bx0 := bx.alloc (.cells #[.string y.job, .string y.node, .int .i64 y.till] 37)
 have HT := Lib.hid (tl_beq (LeaseD.job y) (LeaseD.job x))
 go_enter Tryz.func96, Tryz.ntmps96
 go_wp2_with fail
 generalize w.alloc _ = w0 at *
 refine wp_region_abv (by kernel_rfl) (by kernel_rfl) ?_
 repeat (first
  | (refine wpQuiet_load_g (by first | rfl | kernel_rfl) _ _ rfl ⟨w.heap.size, 0, none⟩ rfl [Value.string y.job, Value.string y.node, Value.int .i64 y.till] _ (fun w5 hw5 => At.blk (by0.below hw5 by0.lt)) Tryz.underlying37 rfl lease_size ?_; simp only [Act.put, List.setIfInBounds_toArray, List.set_cons_zero, List.set_cons_succ])
  | (refine wpQuiet_load_g (by first | rfl | kernel_rfl) _ _ rfl ⟨gx, 0, none⟩ rfl [Value.string x.job, Value.string x.node, Value.int .i64 x.till] _ (fun w5 hw5 => At.blk (bx0.below hw5 bx0.lt)) Tryz.underlying37 rfl lease_size ?_; simp only [Act.put, List.setIfInBounds_toArray, List.set_cons_zero, List.set_cons_succ])
  | (apply wpQuiet_do; (focus (first | rfl | kernel_rfl)); (focus (intro w5 hw5; have hk5 : w5.cell? ⟨gk, 0, none⟩ = some (.func (.func 34) #[] #[]) := (bk0.below hw5 bk0.lt).cell 0; unfold Oper.quietAt; go_simp; first | rfl | exact ⟨rfl, rfl⟩ | (with_reducible refine (leaseKey_any x w5).mono ?_; rintro e w8 ⟨rfl, hb8⟩; exact ⟨rfl, Abv.step hw5 hb8⟩) | (with_reducible refine (leaseKey_any y w5).mono ?_; rintro e w8 ⟨rfl, hb8⟩; exact ⟨rfl, Abv.step hw5 hb8⟩))); simp only [Act.put, List.setIfInBounds_toArray, List.set_cons_zero, List.set_cons_succ]))
 refine wpQuiet_nil ?_
 intro w7 hw7
 have hb7 := hb0.trans ((show Below w0.heap.size w0 w7 from hw7).mono hb0.size)
 go_wp2_with fail
 go_ret
 exact ⟨by rw [← HT.out]; rfl, hb7⟩
def DiffPostL (w : World) (a b : List LeaseD) (e : Ending) (w' : World) : Prop :=
 ∃ p1 c1 p2 c2, e = .returned (.tuple #[.slice p1 (setOf a b).length c1, .slice p2 (goneOf LeaseD.job a b).length c2]) ∧ OwnR w' w.heap.size 37 3 p1 c1 ((setOf a b).map rowL) ∧ OwnR w' w.heap.size 9 1 p2 c2 ((goneOf LeaseD.job a b).map rowS) ∧ Below w.heap.size w w'
theorem differL_any (p q : Option Addr) (c d : Nat) (a b : List LeaseD) (w : World) (ha : Elts w w.heap.size 3 p (a.map rowL)) (hb : Elts w w.heap.size 3 q (b.map rowL)) (hla : a.length ≤ 1000) (hlb : b.length ≤ 1000) :
  Calls Tryz.prog 55 #[.slice p a.length c, .slice q b.length d, .func (.func 34) #[] #[]] w fun e w' => DiffPostL w a b e w' := by
 have hb0 : Below w.heap.size w (w.alloc (.cells #[Value.func (.func 34) #[] #[]] 84)) := (Below.refl _ _).alloc (Nat.le_refl _) _
 have bk := Blk.new w 84 #[Value.func (.func 34) #[] #[]]
 obtain ⟨i0, hi, hz0, hz1, hz2⟩ := info_parts lease_infoC
 obtain ⟨i1, si, sz0, sz1, sz2⟩ := info_parts string_info
 go_enter Tryz.func55, Tryz.ntmps55
 go_wp2_with fail
 go_loopw [6, 14] (fun v i wr => ∃ (k : Nat) (p1 : Option Addr) (c1 : Nat), k ≤ b.length ∧ v = .slice p1 (setOf a (b.take k)).length c1 ∧ i = .int .i64 k ∧ Below w.heap.size w wr ∧ Blk wr w.heap.size 84 #[Value.func (.func 34) #[] #[]] ∧ wr.ownsRow (w.heap.size + 1) 37 3 v (setOf a (b.take k)).length ((setOf a (b.take k)).map rowL).flatten) (fun _ i _ => b.length - (intOf i).toNat)
 case atStart => exact ⟨0, none, 0, Nat.zero_le _, rfl, rfl, hb0, bk, World.ownsRow_nil _ _ _ _⟩
 case round =>
  obtain ⟨k, p1, c1, hk, rfl, rfl, hbr, bkr, hO⟩ := hrel
  clear bk hb0
  have hsz1 : w.heap.size + 1 ≤ wr.heap.size := bkr.lt
  by_cases hlt : k < b.length
  ·have hx : b[k]? = some b[k] := List.getElem?_eq_getElem hlt
   have hst := setOf_take a b k _ hx
   have hsl := setOf_len a (b.take k)
   rw [List.length_take, Nat.min_eq_left hk] at hsl
   generalize b[k] = x at *
   generalize hS1 : setOf a (b.take (k + 1)) = S1 at *
   generalize setOf a (b.take k) = S0 at *
   obtain ⟨ad, rfl, hab, _, hat⟩ := (hb.below hbr).at_ (k := k) (r := rowL x) (by rw [List.getElem?_map, hx]; rfl)
   have bx := Blk.new wr 37 #[.string x.job, .string x.node, .int .i64 x.till]
   have bk5 := bkr.alloc (.cells #[.string x.job, .string x.node, .int .i64 x.till] 37)
   have hb5 := hbr.alloc hbr.size (.cells #[.string x.job, .string x.node, .int .i64 x.till] 37)
   have hO5 := World.ownsRow.alloc hO (.cells #[.string x.job, .string x.node, .int .i64 x.till] 37)
   have hk0 : (0 : Int) ≤ (k : Int) := by omega
   have hk1 : (k : Int) < (b.length : Int) := by omega
   have hc := containsL_any x p c a (wr.alloc (.cells #[.string x.job, .string x.node, .int .i64 x.till] 37)) ((ha.below hb5).more hb5.size) (by omega)
   cases hp : (a.any fun y => decide (x = y))
   ·rw [hp] at hc hst
    rw [if_neg (by simp)] at hst
    have HC := Lib.hid hc
    have HS := Lib.hid hst
    clear hc hst hO hp hx
    go_wp2_with (first
     | (refine wpList_load_at rfl _ _ rfl (ad.add (k * 3)) rfl [Value.string x.job, Value.string x.node, Value.int .i64 x.till] _ hat Tryz.underlying37 rfl lease_size ?_))
    refine HC.out.mono ?_
    rintro e w1 ⟨rfl, hb1⟩
    have bx1 := bx.below hb1 bx.lt
    have bk1 := bk5.below hb1 bk5.lt
    have hB1 := hb5.trans (hb1.mono hb5.size)
    have hO1 := own_below hO5 hb1
    have hsz2 : w.heap.size + 1 ≤ w1.heap.size := bk1.lt
    clear hb1 hO5 hb5 bx bk5 bkr hat
    go_wp2_with (first
     | (refine wpList_load_blk rfl _ _ rfl wr.heap.size rfl _ _ bx1 _ Tryz.underlying37 rfl lease_size ?_)
     | (at_builtin; refine wpList_append_any _ rfl _ _ 24 rfl (w.heap.size + 1) 37 i0 _ 3 40 Tryz.underlying24 hi hz0 hz1 hz2 rfl (by decide) _ S0.length _ rfl (World.ownsRow.alloc hO1 _) _ (some ⟨w1.heap.size, 0, none⟩) 1 1 (rowL x) rfl (Blk.reads1 (Blk.new w1 37 #[.string x.job, .string x.node, .int .i64 x.till]) rfl) (by intro u hu; simp [rowL] at hu; rcases hu with rfl | rfl | rfl <;> rfl) (by unfold maxLen; omega) (by omega) (by simp; omega) ?_))
    intro v2 w2 hO2 hg2 _
    obtain ⟨p2, c2, rfl⟩ := own_form hO2
    have hb2 : Below (w.heap.size + 1) w1 w2 := ((Below.refl _ _).alloc hsz2 _).grown hg2 (by simp; omega) (fun k hk => (World.ownsRow.lt hO1 k hk).1)
    have hB2 : Below w.heap.size w w2 := hB1.trans (hb2.mono (Nat.le_succ _))
    have bk2 := bk1.below hb2 (Nat.lt_succ_self _)
    clear hO1 hg2 hb2
    go_wp2_with fail
    go_roundw
    case rel => exact ⟨k + 1, p2, c2, by omega, by rw [hS1, HS.out]; simp, by go_num, hB2, bk2, by rw [hS1, HS.out]; simpa using hO2⟩
    case measure => simp [intOf]; omega
   ·rw [hp] at hc hst
    rw [if_pos rfl, List.append_nil] at hst
    have HC := Lib.hid hc
    have HS := Lib.hid hst
    clear hc hst hO hp hx
    go_wp2_with (first
     | (refine wpList_load_at rfl _ _ rfl (ad.add (k * 3)) rfl [Value.string x.job, Value.string x.node, Value.int .i64 x.till] _ hat Tryz.underlying37 rfl lease_size ?_))
    refine HC.out.mono ?_
    rintro e w1 ⟨rfl, hb1⟩
    have bk1 := bk5.below hb1 bk5.lt
    have hB1 := hb5.trans (hb1.mono hb5.size)
    have hO1 := own_below hO5 hb1
    clear hb1 hO5 hb5 bx bk5 bkr hat
    go_wp2_with fail
    go_roundw
    case rel => exact ⟨k + 1, p1, c1, by omega, by rw [hS1, HS.out], by go_num, hB1, bk1, by rw [hS1, HS.out]; exact hO1⟩
    case measure => simp [intOf]; omega
  ·obtain rfl : k = b.length := by omega
   rw [List.take_length] at hO ⊢
   have hsl := setOf_len a b
   have hOS : OwnR wr (w.heap.size + 1) 37 3 p1 c1 ((setOf a b).map rowL) := ⟨fun r hr => by obtain ⟨x, _, rfl⟩ := List.mem_map.1 hr; rfl, by rw [List.length_map]; exact hO⟩
   have HO := Lib.hid hOS
   clear hO hOS
   generalize hSS : setOf a b = SS at *
   obtain ⟨wm, rfl⟩ : ∃ wm : World, wm = wr := ⟨_, rfl⟩
   go_wp2_with fail
   go_loopw [7, 29] (fun v i wr => ∃ (k : Nat) (p2 : Option Addr) (c2 : Nat), k ≤ a.length ∧ v = .slice p2 (goneOf LeaseD.job (a.take k) b).length c2 ∧ i = .int .i64 k ∧ Below wm.heap.size wm wr ∧ wr.ownsRow wm.heap.size 9 1 v (goneOf LeaseD.job (a.take k) b).length ((goneOf LeaseD.job (a.take k) b).map rowS).flatten) (fun _ i _ => a.length - (intOf i).toNat)
   case atStart => exact ⟨0, none, 0, Nat.zero_le _, rfl, rfl, Below.refl _ _, World.ownsRow_nil _ _ _ _⟩
   case round =>
    obtain ⟨k, p2, c2, hk, rfl, rfl, hbm, hO⟩ := hrel
    have hwm := hbm.size
    by_cases hlt : k < a.length
    ·have hx : a[k]? = some a[k] := List.getElem?_eq_getElem hlt
     have hst := goneOf_take LeaseD.job a b k _ hx
     have hgl := goneOf_len LeaseD.job (a.take k) b
     rw [List.length_take, Nat.min_eq_left hk] at hgl
     generalize a[k] = x at *
     generalize hS1 : goneOf LeaseD.job (a.take (k + 1)) b = S1 at *
     generalize goneOf LeaseD.job (a.take k) b = S0 at *
     have hbw := hbr.trans (hbm.mono hbr.size)
     obtain ⟨ad, rfl, hab, _, hat⟩ := (ha.below hbw).at_ (k := k) (r := rowL x) (by rw [List.getElem?_map, hx]; rfl)
     have bx := Blk.new wr 37 #[.string x.job, .string x.node, .int .i64 x.till]
     have bk5 := (bkr.below hbm bkr.lt).alloc (.cells #[.string x.job, .string x.node, .int .i64 x.till] 37)
     have hb5 := hbw.alloc hbw.size (.cells #[.string x.job, .string x.node, .int .i64 x.till] 37)
     have hm5 := hbm.alloc hbm.size (.cells #[.string x.job, .string x.node, .int .i64 x.till] 37)
     have hO5 := World.ownsRow.alloc hO (.cells #[.string x.job, .string x.node, .int .i64 x.till] 37)
     have hk0 : (0 : Int) ≤ (k : Int) := by omega
     have hk1 : (k : Int) < (a.length : Int) := by omega
     have hFn : FnOk Tryz.prog (wr.alloc (.cells #[.string x.job, .string x.node, .int .i64 x.till] 37)) 96 #[.pointer (some ⟨w.heap.size, 0, none⟩), .pointer (some ⟨wr.heap.size, 0, none⟩)] rowL (fun y => decide (LeaseD.job y = LeaseD.job x)) b :=
      ⟨fun args W => by kernel_rfl, fun y _ W hW => differFL_any w.heap.size wr.heap.size x y W (bk5.below hW bk5.lt) (bx.below hW bx.lt)⟩
     have hc := containsFL_any _ _ _ q d b _ ((hb.below hb5).more hb5.size) (by omega) hFn
     clear hFn
     cases hp : (b.any fun y => decide (LeaseD.job y = LeaseD.job x))
     ·rw [hp] at hc hst
      rw [if_neg (by simp)] at hst
      have HC := Lib.hid hc
      have HS := Lib.hid hst
      clear hc hst hO hp hx
      go_wp2_with (first
       | (refine wpList_load_at rfl _ _ rfl (ad.add (k * 3)) rfl [Value.string x.job, Value.string x.node, Value.int .i64 x.till] _ hat Tryz.underlying37 rfl lease_size ?_))
      refine HC.out.mono ?_
      rintro e w1 ⟨rfl, hb1⟩
      have bx1 := bx.below hb1 bx.lt
      have bk1 := bk5.below hb1 bk5.lt
      have hB1 := hm5.trans (hb1.mono hm5.size)
      have hO1 := own_below hO5 hb1
      have hk5 : w1.cell? ⟨w.heap.size, 0, none⟩ = some (.func (.func 34) #[] #[]) := bk1.cell 0
      clear hb1 hO5 hb5 hm5 bx bk5 hat
      go_wp2_with (first
       | (refine wpList_load_blk rfl _ _ rfl wr.heap.size rfl _ _ bx1 _ Tryz.underlying37 rfl lease_size ?_))
      refine (leaseKey_any x _).mono ?_
      rintro e w2 ⟨rfl, hb2⟩
      have hB2 := hB1.trans (hb2.mono hB1.size)
      have hO2 := own_below hO1 hb2
      have hsz2 := hB2.size
      clear hb2 hO1 hB1 bx1 bk1 hk5
      go_wp2_with (first
       | (at_builtin; refine wpList_append_any _ rfl _ _ 46 rfl wm.heap.size 9 i1 _ 1 16 Tryz.underlying46 si sz0 sz1 sz2 rfl (by decide) _ S0.length _ rfl (World.ownsRow.alloc hO2 _) _ (some ⟨w2.heap.size, 0, none⟩) 1 1 (rowS (LeaseD.job x)) rfl (Blk.reads1 (Blk.new w2 9 #[.string (LeaseD.job x)]) rfl) (by intro u hu; simp [rowS] at hu; subst hu; rfl) (by unfold maxLen; omega) (by omega) (by simp; omega) ?_))
      intro v3 w3 hO3 hg3 _
      obtain ⟨p3, c3, rfl⟩ := own_form hO3
      have hB3 : Below wm.heap.size wm w3 := (hB2.alloc hsz2 _).grown hg3 (by simp; omega) (fun k hk => (World.ownsRow.lt hO2 k hk).1)
      clear hO2 hg3
      go_wp2_with fail
      go_roundw
      case rel => exact ⟨k + 1, p3, c3, by omega, by rw [hS1, HS.out]; simp, by go_num, hB3, by rw [hS1, HS.out]; simpa using hO3⟩
      case measure => simp [intOf]; omega
     ·rw [hp] at hc hst
      rw [if_pos rfl, List.append_nil] at hst
      have HC := Lib.hid hc
      have HS := Lib.hid hst
      clear hc hst hO hp hx
      go_wp2_with (first
       | (refine wpList_load_at rfl _ _ rfl (ad.add (k * 3)) rfl [Value.string x.job, Value.string x.node, Value.int .i64 x.till] _ hat Tryz.underlying37 rfl lease_size ?_))
      refine HC.out.mono ?_
      rintro e w1 ⟨rfl, hb1⟩
      have hB1 := hm5.trans (hb1.mono hm5.size)
      have hO1 := own_below hO5 hb1
      clear hb1 hO5 hb5 hm5 bx bk5 hat
      go_wp2_with fail
      go_roundw
      case rel => exact ⟨k + 1, p2, c2, by omega, by rw [hS1, HS.out], by go_num, hB1, by rw [hS1, HS.out]; exact hO1⟩
      case measure => simp [intOf]; omega
    ·obtain rfl : k = a.length := by omega
     rw [List.take_length] at hO ⊢
     have hOG : OwnR wr wm.heap.size 9 1 p2 c2 ((goneOf LeaseD.job a b).map rowS) := ⟨fun r hr => by obtain ⟨x, _, rfl⟩ := List.mem_map.1 hr; rfl, by rw [List.length_map]; exact hO⟩
     have HG := Lib.hid hOG
     clear hO hOG
     go_wp2_with fail
     go_ret2
     exact ⟨p1, c1, p2, c2, by rw [hSS]; rfl, by rw [hSS]; exact (OwnR.lower HO.out (Nat.le_succ _)).below hbm, OwnR.lower HG.out hbr.size, hbr.trans (hbm.mono hbr.size)⟩
end Go.Proofs.YtaioadbenigdpaaGreatDoor
