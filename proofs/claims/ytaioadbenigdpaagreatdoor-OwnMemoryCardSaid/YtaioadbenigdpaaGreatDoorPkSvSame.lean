/-
  Several texts in one: SeqJ, SeqN, SeqL, SvSame.
-/
import Derived.Test.YtaioadbenigdpaaGreatDoorPkEq
import Derived.Test.YtaioadbenigdpaaGreatDoorPkStateA
import Derived.Test.YtaioadbenigdpaaGreatDoorPkSrvP
set_option linter.unusedVariables false
set_option linter.unusedSimpArgs false
set_option maxHeartbeats 16000000
set_option maxRecDepth 100000
namespace Go.Proofs.YtaioadbenigdpaaGreatDoor
open Go.RowKit
theorem seqJ_any (p q : Option Addr) (c c' : Nat) (l m : List JobD) (w : World) (hp : Elts w w.heap.size 5 p (l.map rowJ)) (hq : Elts w w.heap.size 5 q (m.map rowJ)) (hl : l.length ≤ 4611686018427387904) (hm : m.length ≤ 4611686018427387904) :
  Calls Tryz.prog 50 #[.slice p l.length c, .slice q m.length c'] w fun e w' => e = .returned (.bool (decide (l = m))) ∧ Below w.heap.size w w' := by
 by_cases hlen : l.length = m.length
 ·have hb : ((l.length : Int) != (m.length : Int)) = false := by rw [hlen]; simp
  have h1 : l.length ≤ m.length := by omega
  have h2 : m.length ≤ l.length := by omega
  have HLEN := Lib.hid hlen
  clear hlen
  go_enter Tryz.func50, Tryz.ntmps50
  go_wp2_with fail
  go_loopw [13] (fun i wr => ∃ k : Nat, k ≤ l.length ∧ i = .int .i64 k ∧ Below w.heap.size w wr ∧ Hid (l.take k = m.take k)) (fun i _ => l.length - (intOf i).toNat)
  case atStart => exact ⟨0, Nat.zero_le _, rfl, Below.refl _ _, (show _ = _ from rfl)⟩
  case round =>
   obtain ⟨k, hk, rfl, hbr, HT⟩ := hrel
   by_cases hlt : k < l.length
   ·have hkm : k < m.length := by omega
    have hx : l[k]? = some l[k] := List.getElem?_eq_getElem hlt
    have hy : m[k]? = some m[k] := List.getElem?_eq_getElem hkm
    generalize l[k] = x at *
    generalize m[k] = y at *
    obtain ⟨a, rfl, hab, _, hat⟩ := (hp.below hbr).at_ (k := k) (r := rowJ x) (by rw [List.getElem?_map, hx]; rfl)
    obtain ⟨b, rfl, hbb, _, hbt⟩ := (hq.below hbr).at_ (k := k) (r := rowJ y) (by rw [List.getElem?_map, hy]; rfl)
    have HX := Lib.hid hx
    have HY := Lib.hid hy
    clear hx hy
    by_cases hxy : x = y
    ·have HQ := Lib.hid (fun W => (eqInJ x y W).trans (by rw [decide_eq_true hxy]))
     have HN := Lib.hid (take_snoc_eq HT.out HX.out (hxy ▸ HY.out))
     clear hxy HX HY HT
     go_wp2_with fail
     refine wp_region_quiet_lit (by kernel_rfl) (by kernel_rfl) ?_
     repeat (first
      | (refine wpQuiet_neq rfl _ _ _ _ rfl #[.string x.name, .int .i64 x.prio, .int .i64 x.need, .int .i64 x.tries, .string x.tag] #[.string y.name, .int .i64 y.prio, .int .i64 y.need, .int .i64 y.tries, .string y.tag] true rfl rfl eqGuardJ HQ.out ?_; simp only [Act.put, List.setIfInBounds_toArray, List.set_cons_zero, List.set_cons_succ, Bool.not_true, Bool.not_false])
      | (refine wpQuiet_load_at rfl _ _ rfl (a.add (k * 5)) rfl [Value.string x.name, Value.int .i64 x.prio, Value.int .i64 x.need, Value.int .i64 x.tries, Value.string x.tag] _ ?_ Tryz.underlying31 rfl job_size ?_; (focus (rintro w5 ⟨n5, rfl⟩; exact hat.drewN n5)); simp only [Act.put, List.setIfInBounds_toArray, List.set_cons_zero, List.set_cons_succ])
      | (refine wpQuiet_load_at rfl _ _ rfl (b.add (k * 5)) rfl [Value.string y.name, Value.int .i64 y.prio, Value.int .i64 y.need, Value.int .i64 y.tries, Value.string y.tag] _ ?_ Tryz.underlying31 rfl job_size ?_; (focus (rintro w5 ⟨n5, rfl⟩; exact hbt.drewN n5)); simp only [Act.put, List.setIfInBounds_toArray, List.set_cons_zero, List.set_cons_succ])
      | go_big_quiet_step (fail))
     refine wpQuiet_nil ?_
     intro _ hw'
     obtain ⟨nq, hw''⟩ := hw'
     subst hw''
     go_wp2_with fail
     go_roundw
     case rel => exact ⟨k + 1, by omega, by go_num, below_drewN hbr nq, HN.out⟩
     case measure => simp [intOf]; omega
    ·have HQ := Lib.hid (fun W => (eqInJ x y W).trans (by rw [decide_eq_false hxy]))
     have HN := Lib.hid (take_eq_ne hxy HX.out HY.out)
     clear hxy HX HY HT
     go_wp2_with fail
     refine wp_region_quiet_lit (by kernel_rfl) (by kernel_rfl) ?_
     repeat (first
      | (refine wpQuiet_neq rfl _ _ _ _ rfl #[.string x.name, .int .i64 x.prio, .int .i64 x.need, .int .i64 x.tries, .string x.tag] #[.string y.name, .int .i64 y.prio, .int .i64 y.need, .int .i64 y.tries, .string y.tag] false rfl rfl eqGuardJ HQ.out ?_; simp only [Act.put, List.setIfInBounds_toArray, List.set_cons_zero, List.set_cons_succ, Bool.not_true, Bool.not_false])
      | (refine wpQuiet_load_at rfl _ _ rfl (a.add (k * 5)) rfl [Value.string x.name, Value.int .i64 x.prio, Value.int .i64 x.need, Value.int .i64 x.tries, Value.string x.tag] _ ?_ Tryz.underlying31 rfl job_size ?_; (focus (rintro w5 ⟨n5, rfl⟩; exact hat.drewN n5)); simp only [Act.put, List.setIfInBounds_toArray, List.set_cons_zero, List.set_cons_succ])
      | (refine wpQuiet_load_at rfl _ _ rfl (b.add (k * 5)) rfl [Value.string y.name, Value.int .i64 y.prio, Value.int .i64 y.need, Value.int .i64 y.tries, Value.string y.tag] _ ?_ Tryz.underlying31 rfl job_size ?_; (focus (rintro w5 ⟨n5, rfl⟩; exact hbt.drewN n5)); simp only [Act.put, List.setIfInBounds_toArray, List.set_cons_zero, List.set_cons_succ])
      | go_big_quiet_step (fail))
     refine wpQuiet_nil ?_
     intro _ hw'
     obtain ⟨nq, hw''⟩ := hw'
     subst hw''
     go_wp2_with fail
     go_ret
     exact ⟨by rw [decide_eq_false HN.out]; rfl, below_drewN hbr nq⟩
   ·obtain rfl : k = l.length := by omega
    have HE := Lib.hid (show l = m from by have := HT.out; rwa [List.take_length, HLEN.out, List.take_length] at this)
    clear HT
    go_wp2_with fail
    go_ret
    exact ⟨by rw [decide_eq_true HE.out]; rfl, hbr⟩
 ·have hb : ((l.length : Int) != (m.length : Int)) = true := by rw [bne_iff_ne]; omega
  have HN := Lib.hid (show l ≠ m from fun e => hlen (by rw [e]))
  clear hlen
  go_enter Tryz.func50, Tryz.ntmps50
  go_wp2_with fail
  go_ret
  exact ⟨by rw [decide_eq_false HN.out]; rfl, Below.refl _ _⟩
open Go.RowKit
theorem seqN_any (p q : Option Addr) (c c' : Nat) (l m : List NodeD) (w : World) (hp : Elts w w.heap.size 3 p (l.map rowN)) (hq : Elts w w.heap.size 3 q (m.map rowN)) (hl : l.length ≤ 4611686018427387904) (hm : m.length ≤ 4611686018427387904) :
  Calls Tryz.prog 51 #[.slice p l.length c, .slice q m.length c'] w fun e w' => e = .returned (.bool (decide (l = m))) ∧ Below w.heap.size w w' := by
 by_cases hlen : l.length = m.length
 ·have hb : ((l.length : Int) != (m.length : Int)) = false := by rw [hlen]; simp
  have h1 : l.length ≤ m.length := by omega
  have h2 : m.length ≤ l.length := by omega
  have HLEN := Lib.hid hlen
  clear hlen
  go_enter Tryz.func51, Tryz.ntmps51
  go_wp2_with fail
  go_loopw [13] (fun i wr => ∃ k : Nat, k ≤ l.length ∧ i = .int .i64 k ∧ Below w.heap.size w wr ∧ Hid (l.take k = m.take k)) (fun i _ => l.length - (intOf i).toNat)
  case atStart => exact ⟨0, Nat.zero_le _, rfl, Below.refl _ _, (show _ = _ from rfl)⟩
  case round =>
   obtain ⟨k, hk, rfl, hbr, HT⟩ := hrel
   by_cases hlt : k < l.length
   ·have hkm : k < m.length := by omega
    have hx : l[k]? = some l[k] := List.getElem?_eq_getElem hlt
    have hy : m[k]? = some m[k] := List.getElem?_eq_getElem hkm
    generalize l[k] = x at *
    generalize m[k] = y at *
    obtain ⟨a, rfl, hab, _, hat⟩ := (hp.below hbr).at_ (k := k) (r := rowN x) (by rw [List.getElem?_map, hx]; rfl)
    obtain ⟨b, rfl, hbb, _, hbt⟩ := (hq.below hbr).at_ (k := k) (r := rowN y) (by rw [List.getElem?_map, hy]; rfl)
    have HX := Lib.hid hx
    have HY := Lib.hid hy
    clear hx hy
    by_cases hxy : x = y
    ·have HQ := Lib.hid (fun W => (eqInN x y W).trans (by rw [decide_eq_true hxy]))
     have HN := Lib.hid (take_snoc_eq HT.out HX.out (hxy ▸ HY.out))
     clear hxy HX HY HT
     go_wp2_with fail
     refine wp_region_quiet_lit (by kernel_rfl) (by kernel_rfl) ?_
     repeat (first
      | (refine wpQuiet_neq rfl _ _ _ _ rfl #[.string x.name, .int .i64 x.room, .string x.zone] #[.string y.name, .int .i64 y.room, .string y.zone] true rfl rfl eqGuardN HQ.out ?_; simp only [Act.put, List.setIfInBounds_toArray, List.set_cons_zero, List.set_cons_succ, Bool.not_true, Bool.not_false])
      | (refine wpQuiet_load_at rfl _ _ rfl (a.add (k * 3)) rfl [Value.string x.name, Value.int .i64 x.room, Value.string x.zone] _ ?_ Tryz.underlying34 rfl node_size ?_; (focus (rintro w5 ⟨n5, rfl⟩; exact hat.drewN n5)); simp only [Act.put, List.setIfInBounds_toArray, List.set_cons_zero, List.set_cons_succ])
      | (refine wpQuiet_load_at rfl _ _ rfl (b.add (k * 3)) rfl [Value.string y.name, Value.int .i64 y.room, Value.string y.zone] _ ?_ Tryz.underlying34 rfl node_size ?_; (focus (rintro w5 ⟨n5, rfl⟩; exact hbt.drewN n5)); simp only [Act.put, List.setIfInBounds_toArray, List.set_cons_zero, List.set_cons_succ])
      | go_big_quiet_step (fail))
     refine wpQuiet_nil ?_
     intro _ hw'
     obtain ⟨nq, hw''⟩ := hw'
     subst hw''
     go_wp2_with fail
     go_roundw
     case rel => exact ⟨k + 1, by omega, by go_num, below_drewN hbr nq, HN.out⟩
     case measure => simp [intOf]; omega
    ·have HQ := Lib.hid (fun W => (eqInN x y W).trans (by rw [decide_eq_false hxy]))
     have HN := Lib.hid (take_eq_ne hxy HX.out HY.out)
     clear hxy HX HY HT
     go_wp2_with fail
     refine wp_region_quiet_lit (by kernel_rfl) (by kernel_rfl) ?_
     repeat (first
      | (refine wpQuiet_neq rfl _ _ _ _ rfl #[.string x.name, .int .i64 x.room, .string x.zone] #[.string y.name, .int .i64 y.room, .string y.zone] false rfl rfl eqGuardN HQ.out ?_; simp only [Act.put, List.setIfInBounds_toArray, List.set_cons_zero, List.set_cons_succ, Bool.not_true, Bool.not_false])
      | (refine wpQuiet_load_at rfl _ _ rfl (a.add (k * 3)) rfl [Value.string x.name, Value.int .i64 x.room, Value.string x.zone] _ ?_ Tryz.underlying34 rfl node_size ?_; (focus (rintro w5 ⟨n5, rfl⟩; exact hat.drewN n5)); simp only [Act.put, List.setIfInBounds_toArray, List.set_cons_zero, List.set_cons_succ])
      | (refine wpQuiet_load_at rfl _ _ rfl (b.add (k * 3)) rfl [Value.string y.name, Value.int .i64 y.room, Value.string y.zone] _ ?_ Tryz.underlying34 rfl node_size ?_; (focus (rintro w5 ⟨n5, rfl⟩; exact hbt.drewN n5)); simp only [Act.put, List.setIfInBounds_toArray, List.set_cons_zero, List.set_cons_succ])
      | go_big_quiet_step (fail))
     refine wpQuiet_nil ?_
     intro _ hw'
     obtain ⟨nq, hw''⟩ := hw'
     subst hw''
     go_wp2_with fail
     go_ret
     exact ⟨by rw [decide_eq_false HN.out]; rfl, below_drewN hbr nq⟩
   ·obtain rfl : k = l.length := by omega
    have HE := Lib.hid (show l = m from by have := HT.out; rwa [List.take_length, HLEN.out, List.take_length] at this)
    clear HT
    go_wp2_with fail
    go_ret
    exact ⟨by rw [decide_eq_true HE.out]; rfl, hbr⟩
 ·have hb : ((l.length : Int) != (m.length : Int)) = true := by rw [bne_iff_ne]; omega
  have HN := Lib.hid (show l ≠ m from fun e => hlen (by rw [e]))
  clear hlen
  go_enter Tryz.func51, Tryz.ntmps51
  go_wp2_with fail
  go_ret
  exact ⟨by rw [decide_eq_false HN.out]; rfl, Below.refl _ _⟩
open Go.RowKit
theorem seqL_any (p q : Option Addr) (c c' : Nat) (l m : List LeaseD) (w : World) (hp : Elts w w.heap.size 3 p (l.map rowL)) (hq : Elts w w.heap.size 3 q (m.map rowL)) (hl : l.length ≤ 4611686018427387904) (hm : m.length ≤ 4611686018427387904) :
  Calls Tryz.prog 52 #[.slice p l.length c, .slice q m.length c'] w fun e w' => e = .returned (.bool (decide (l = m))) ∧ Below w.heap.size w w' := by
 by_cases hlen : l.length = m.length
 ·have hb : ((l.length : Int) != (m.length : Int)) = false := by rw [hlen]; simp
  have h1 : l.length ≤ m.length := by omega
  have h2 : m.length ≤ l.length := by omega
  have HLEN := Lib.hid hlen
  clear hlen
  go_enter Tryz.func52, Tryz.ntmps52
  go_wp2_with fail
  go_loopw [13] (fun i wr => ∃ k : Nat, k ≤ l.length ∧ i = .int .i64 k ∧ Below w.heap.size w wr ∧ Hid (l.take k = m.take k)) (fun i _ => l.length - (intOf i).toNat)
  case atStart => exact ⟨0, Nat.zero_le _, rfl, Below.refl _ _, (show _ = _ from rfl)⟩
  case round =>
   obtain ⟨k, hk, rfl, hbr, HT⟩ := hrel
   by_cases hlt : k < l.length
   ·have hkm : k < m.length := by omega
    have hx : l[k]? = some l[k] := List.getElem?_eq_getElem hlt
    have hy : m[k]? = some m[k] := List.getElem?_eq_getElem hkm
    generalize l[k] = x at *
    generalize m[k] = y at *
    obtain ⟨a, rfl, hab, _, hat⟩ := (hp.below hbr).at_ (k := k) (r := rowL x) (by rw [List.getElem?_map, hx]; rfl)
    obtain ⟨b, rfl, hbb, _, hbt⟩ := (hq.below hbr).at_ (k := k) (r := rowL y) (by rw [List.getElem?_map, hy]; rfl)
    have HX := Lib.hid hx
    have HY := Lib.hid hy
    clear hx hy
    by_cases hxy : x = y
    ·have HQ := Lib.hid (fun W => (eqInL x y W).trans (by rw [decide_eq_true hxy]))
     have HN := Lib.hid (take_snoc_eq HT.out HX.out (hxy ▸ HY.out))
     clear hxy HX HY HT
     go_wp2_with fail
     refine wp_region_quiet_lit (by kernel_rfl) (by kernel_rfl) ?_
     repeat (first
      | (refine wpQuiet_neq rfl _ _ _ _ rfl #[.string x.job, .string x.node, .int .i64 x.till] #[.string y.job, .string y.node, .int .i64 y.till] true rfl rfl eqGuardL HQ.out ?_; simp only [Act.put, List.setIfInBounds_toArray, List.set_cons_zero, List.set_cons_succ, Bool.not_true, Bool.not_false])
      | (refine wpQuiet_load_at rfl _ _ rfl (a.add (k * 3)) rfl [Value.string x.job, Value.string x.node, Value.int .i64 x.till] _ ?_ Tryz.underlying37 rfl lease_size ?_; (focus (rintro w5 ⟨n5, rfl⟩; exact hat.drewN n5)); simp only [Act.put, List.setIfInBounds_toArray, List.set_cons_zero, List.set_cons_succ])
      | (refine wpQuiet_load_at rfl _ _ rfl (b.add (k * 3)) rfl [Value.string y.job, Value.string y.node, Value.int .i64 y.till] _ ?_ Tryz.underlying37 rfl lease_size ?_; (focus (rintro w5 ⟨n5, rfl⟩; exact hbt.drewN n5)); simp only [Act.put, List.setIfInBounds_toArray, List.set_cons_zero, List.set_cons_succ])
      | go_big_quiet_step (fail))
     refine wpQuiet_nil ?_
     intro _ hw'
     obtain ⟨nq, hw''⟩ := hw'
     subst hw''
     go_wp2_with fail
     go_roundw
     case rel => exact ⟨k + 1, by omega, by go_num, below_drewN hbr nq, HN.out⟩
     case measure => simp [intOf]; omega
    ·have HQ := Lib.hid (fun W => (eqInL x y W).trans (by rw [decide_eq_false hxy]))
     have HN := Lib.hid (take_eq_ne hxy HX.out HY.out)
     clear hxy HX HY HT
     go_wp2_with fail
     refine wp_region_quiet_lit (by kernel_rfl) (by kernel_rfl) ?_
     repeat (first
      | (refine wpQuiet_neq rfl _ _ _ _ rfl #[.string x.job, .string x.node, .int .i64 x.till] #[.string y.job, .string y.node, .int .i64 y.till] false rfl rfl eqGuardL HQ.out ?_; simp only [Act.put, List.setIfInBounds_toArray, List.set_cons_zero, List.set_cons_succ, Bool.not_true, Bool.not_false])
      | (refine wpQuiet_load_at rfl _ _ rfl (a.add (k * 3)) rfl [Value.string x.job, Value.string x.node, Value.int .i64 x.till] _ ?_ Tryz.underlying37 rfl lease_size ?_; (focus (rintro w5 ⟨n5, rfl⟩; exact hat.drewN n5)); simp only [Act.put, List.setIfInBounds_toArray, List.set_cons_zero, List.set_cons_succ])
      | (refine wpQuiet_load_at rfl _ _ rfl (b.add (k * 3)) rfl [Value.string y.job, Value.string y.node, Value.int .i64 y.till] _ ?_ Tryz.underlying37 rfl lease_size ?_; (focus (rintro w5 ⟨n5, rfl⟩; exact hbt.drewN n5)); simp only [Act.put, List.setIfInBounds_toArray, List.set_cons_zero, List.set_cons_succ])
      | go_big_quiet_step (fail))
     refine wpQuiet_nil ?_
     intro _ hw'
     obtain ⟨nq, hw''⟩ := hw'
     subst hw''
     go_wp2_with fail
     go_ret
     exact ⟨by rw [decide_eq_false HN.out]; rfl, below_drewN hbr nq⟩
   ·obtain rfl : k = l.length := by omega
    have HE := Lib.hid (show l = m from by have := HT.out; rwa [List.take_length, HLEN.out, List.take_length] at this)
    clear HT
    go_wp2_with fail
    go_ret
    exact ⟨by rw [decide_eq_true HE.out]; rfl, hbr⟩
 ·have hb : ((l.length : Int) != (m.length : Int)) = true := by rw [bne_iff_ne]; omega
  have HN := Lib.hid (show l ≠ m from fun e => hlen (by rw [e]))
  clear hlen
  go_enter Tryz.func52, Tryz.ntmps52
  go_wp2_with fail
  go_ret
  exact ⟨by rw [decide_eq_false HN.out]; rfl, Below.refl _ _⟩
open Go.RowKit
theorem svSame_any (a b : St) (p1 p2 p3 q1 q2 q3 : Option Addr) (c1 c2 c3 d1 d2 d3 : Nat) (w : World) (ha : StM w w.heap.size p1 p2 p3 a) (hb : StM w w.heap.size q1 q2 q3 b) (hza : StSz a) (hzb : StSz b) :
  Calls Tryz.prog 25 #[.agg #[.int .i64 a.rev, .slice p1 a.jobs.length c1, .slice p2 a.nodes.length c2, .slice p3 a.leases.length c3], .agg #[.int .i64 b.rev, .slice q1 b.jobs.length d1, .slice q2 b.nodes.length d2, .slice q3 b.leases.length d3]] w fun e w' => e = .returned (.bool (sameT a b)) ∧ Below w.heap.size w w' := by
 have hJ := fun (W : World) (hW : Below w.heap.size w W) => seqJ_any p1 q1 c1 d1 a.jobs b.jobs W ((ha.j.below hW).more hW.size) ((hb.j.below hW).more hW.size) hza.lj hzb.lj
 have hN := fun (W : World) (hW : Below w.heap.size w W) => seqN_any p2 q2 c2 d2 a.nodes b.nodes W ((ha.n.below hW).more hW.size) ((hb.n.below hW).more hW.size) hza.ln hzb.ln
 have hL := fun (W : World) (hW : Below w.heap.size w W) => seqL_any p3 q3 c3 d3 a.leases b.leases W ((ha.l.below hW).more hW.size) ((hb.l.below hW).more hW.size) hza.ll hzb.ll
 have bA := Blk.new w 26 #[.int .i64 a.rev, .slice p1 a.jobs.length c1, .slice p2 a.nodes.length c2, .slice p3 a.leases.length c3]
 have hs1 : (w.alloc (.cells #[.int .i64 a.rev, .slice p1 a.jobs.length c1, .slice p2 a.nodes.length c2, .slice p3 a.leases.length c3] 26)).heap.size = w.heap.size + 1 := by simp
 have bB := Blk.new (w.alloc (.cells #[.int .i64 a.rev, .slice p1 a.jobs.length c1, .slice p2 a.nodes.length c2, .slice p3 a.leases.length c3] 26)) 26 #[.int .i64 b.rev, .slice q1 b.jobs.length d1, .slice q2 b.nodes.length d2, .slice q3 b.leases.length d3]
 have bA := bA.alloc (.cells #[.int .i64 b.rev, .slice q1 b.jobs.length d1, .slice q2 b.nodes.length d2, .slice q3 b.leases.length d3] 26)
 have hB0 : Below w.heap.size w ((w.alloc (.cells #[.int .i64 a.rev, .slice p1 a.jobs.length c1, .slice p2 a.nodes.length c2, .slice p3 a.leases.length c3] 26)).alloc (.cells #[.int .i64 b.rev, .slice q1 b.jobs.length d1, .slice q2 b.nodes.length d2, .slice q3 b.leases.length d3] 26)) := ((Below.refl _ _).alloc (Nat.le_refl _) _).alloc (by omega) _
 rw [hs1] at bB
 have HV := Lib.hid (show sameT a b = (decide (a.jobs = b.jobs) && decide (a.nodes = b.nodes) && decide (a.leases = b.leases)) from by
  unfold sameT; simp only [Bool.decide_and, Bool.and_assoc])
 have HJ := Lib.hid hJ
 have HN := Lib.hid hN
 have HL := Lib.hid hL
 clear hJ hN hL ha hb hza hzb
 generalize hj : decide (a.jobs = b.jobs) = xj at *
 generalize hn : decide (a.nodes = b.nodes) = xn at *
 generalize hl : decide (a.leases = b.leases) = xl at *
 clear hj hn hl
 cases xj
 ·go_enter Tryz.func25, Tryz.ntmps25
  go_wp2_with fail
  refine (HJ.out _ hB0).mono ?_
  rintro e w1 ⟨rfl, hb1⟩
  have hB1 := hB0.trans (hb1.mono hB0.size)
  go_wp2_with fail
  go_ret
  exact ⟨by rw [HV.out]; rfl, hB1⟩
 ·cases xn
  ·go_enter Tryz.func25, Tryz.ntmps25
   go_wp2_with fail
   generalize (w.alloc _).alloc _ = W at *
   refine (HJ.out _ hB0).mono ?_
   rintro e w1 ⟨rfl, hb1⟩
   have hB1 := hB0.trans (hb1.mono hB0.size)
   have bA1 := bA.below hb1 bA.lt
   have bB1 := bB.below hb1 bB.lt
   have e1 : w1.cell? ⟨w.heap.size, 2, none⟩ = some (.slice p2 a.nodes.length c2) := bA1.cell 2
   have e2 : w1.cell? ⟨w.heap.size + 1, 2, none⟩ = some (.slice q2 b.nodes.length d2) := bB1.cell 2
   go_wp2_with fail
   refine (HN.out _ hB1).mono ?_
   rintro e w2 ⟨rfl, hb2⟩
   have hB2 := hB1.trans (hb2.mono hB1.size)
   go_wp2_with fail
   go_ret
   exact ⟨by rw [HV.out]; rfl, hB2⟩
  ·go_enter Tryz.func25, Tryz.ntmps25
   go_wp2_with fail
   generalize (w.alloc _).alloc _ = W at *
   refine (HJ.out _ hB0).mono ?_
   rintro e w1 ⟨rfl, hb1⟩
   have hB1 := hB0.trans (hb1.mono hB0.size)
   have bA1 := bA.below hb1 bA.lt
   have bB1 := bB.below hb1 bB.lt
   have e1 : w1.cell? ⟨w.heap.size, 2, none⟩ = some (.slice p2 a.nodes.length c2) := bA1.cell 2
   have e2 : w1.cell? ⟨w.heap.size + 1, 2, none⟩ = some (.slice q2 b.nodes.length d2) := bB1.cell 2
   clear bA bB
   go_wp2_with fail
   refine (HN.out _ hB1).mono ?_
   rintro e w2 ⟨rfl, hb2⟩
   have hB2 := hB1.trans (hb2.mono hB1.size)
   have bA2 := bA1.below hb2 bA1.lt
   have bB2 := bB1.below hb2 bB1.lt
   clear e1 e2
   have e1 : w2.cell? ⟨w.heap.size, 3, none⟩ = some (.slice p3 a.leases.length c3) := bA2.cell 3
   have e2 : w2.cell? ⟨w.heap.size + 1, 3, none⟩ = some (.slice q3 b.leases.length d3) := bB2.cell 3
   go_wp2_with fail
   refine (HL.out _ hB2).mono ?_
   rintro e w3 ⟨rfl, hb3⟩
   have hB3 := hB2.trans (hb3.mono hB2.size)
   go_wp2_with fail
   go_ret
   exact ⟨by rw [HV.out]; rfl, hB3⟩
end Go.Proofs.YtaioadbenigdpaaGreatDoor
