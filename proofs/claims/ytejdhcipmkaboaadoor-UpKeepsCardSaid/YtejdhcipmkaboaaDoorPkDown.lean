/-
  Several texts in one: SeqJ, SeqN, Held, DownH, Down1, Down2, Down3, DownW.
-/
import Derived.Test.YtejdhcipmkaboaaDoorPkSame
import Derived.Test.YtejdhcipmkaboaaDoorPkBase
import Derived.Deep.RegionHeld3
import Derived.Test.YtejdhcipmkaboaaDoorPkUp
/-
  The contract of slices.Equal at jobs.
-/
set_option linter.unusedVariables false
set_option linter.unusedSimpArgs false
namespace Go.Proofs.YtejdhcipmkaboaaDoor
open Go.RowKit
set_option maxHeartbeats 2000000 in
set_option maxRecDepth 100000 in
theorem seqJ_any (p q : Option Addr) (c c' : Nat) (l m : List JobD) (w : World) (hp : Elts w w.heap.size 5 p (l.map rowJ)) (hq : Elts w w.heap.size 5 q (m.map rowJ)) (hl : l.length ≤ 4611686018427387904) (hm : m.length ≤ 4611686018427387904) :
    Calls Tryd.prog 60 #[.slice p l.length c, .slice q m.length c'] w fun e w' => e = .returned (.bool (decide (l = m))) ∧ Below w.heap.size w w' := by
  by_cases hlen : l.length = m.length
  · have hb : ((l.length : Int) != (m.length : Int)) = false := by rw [hlen]; simp
    have h1 : l.length ≤ m.length := by omega
    have h2 : m.length ≤ l.length := by omega
    have HLEN := Lib.hid hlen
    clear hlen
    go_enter Tryd.func60, Tryd.ntmps60
    go_wp2_with fail
    go_loopw [13] (fun i wr => ∃ k : Nat, k ≤ l.length ∧ i = .int .i64 k ∧ Below w.heap.size w wr ∧ Hid (l.take k = m.take k)) (fun i _ => l.length - (intOf i).toNat)
    case atStart => exact ⟨0, Nat.zero_le _, rfl, Below.refl _ _, (show _ = _ from rfl)⟩
    case round =>
      obtain ⟨k, hk, rfl, hbr, HT⟩ := hrel
      by_cases hlt : k < l.length
      · have hkm : k < m.length := by omega
        have hx : l[k]? = some l[k] := List.getElem?_eq_getElem hlt
        have hy : m[k]? = some m[k] := List.getElem?_eq_getElem hkm
        generalize l[k] = x at *
        generalize m[k] = y at *
        have hi0 : (0 : Int) ≤ (k : Int) := by omega
        have hi1 : (k : Int) < (l.length : Int) := by omega
        have hi2 : (k : Int) < (m.length : Int) := by omega
        obtain ⟨a, rfl, hab, _, hat⟩ := (hp.below hbr).at_ (k := k) (r := rowJ x) (by rw [List.getElem?_map, hx]; rfl)
        obtain ⟨b, rfl, hbb, _, hbt⟩ := (hq.below hbr).at_ (k := k) (r := rowJ y) (by rw [List.getElem?_map, hy]; rfl)
        have HX := Lib.hid hx
        have HY := Lib.hid hy
        clear hx hy
        by_cases hxy : x = y
        · have HQ := Lib.hid (fun W => (eqInJ x y W).trans (by rw [decide_eq_true hxy]))
          have HN := Lib.hid (take_snoc_eq HT.out HX.out (hxy ▸ HY.out))
          clear hxy HX HY HT
          go_wp2_with fail
          refine wp_region_quiet_lit (by kernel_rfl) (by kernel_rfl) ?_
          repeat (first
            | (refine wpQuiet_neq rfl _ _ _ _ rfl #[Value.string x.name, Value.int .i64 x.prio, Value.int .i64 x.need, Value.int .i64 x.tries, Value.string x.tag] #[Value.string y.name, Value.int .i64 y.prio, Value.int .i64 y.need, Value.int .i64 y.tries, Value.string y.tag] true rfl rfl eqGuardJ HQ.out ?_; simp only [Act.put, List.setIfInBounds_toArray, List.set_cons_zero, List.set_cons_succ, Bool.not_true])
            | go_big_quiet_step (fail)
            | (refine wpQuiet_load_at rfl _ _ rfl (a.add (k * 5)) rfl [Value.string x.name, Value.int .i64 x.prio, Value.int .i64 x.need, Value.int .i64 x.tries, Value.string x.tag] _ ?_ Tryd.underlying49 rfl job_size ?_; (focus (rintro w5 ⟨n5, rfl⟩; exact hat.drewN n5)); simp only [Act.put, List.setIfInBounds_toArray, List.set_cons_zero, List.set_cons_succ])
            | (refine wpQuiet_load_at rfl _ _ rfl (b.add (k * 5)) rfl [Value.string y.name, Value.int .i64 y.prio, Value.int .i64 y.need, Value.int .i64 y.tries, Value.string y.tag] _ ?_ Tryd.underlying49 rfl job_size ?_; (focus (rintro w5 ⟨n5, rfl⟩; exact hbt.drewN n5)); simp only [Act.put, List.setIfInBounds_toArray, List.set_cons_zero, List.set_cons_succ]))
          refine wpQuiet_nil ?_
          intro _ hw'
          obtain ⟨nq, hw''⟩ := hw'
          subst hw''
          go_wp2_with fail
          go_roundw
          case rel => exact ⟨k + 1, by omega, by go_num, below_drewN hbr nq, HN.out⟩
          case measure => simp [intOf]; omega
        · have HQ := Lib.hid (fun W => (eqInJ x y W).trans (by rw [decide_eq_false hxy]))
          have HN := Lib.hid (take_eq_ne hxy HX.out HY.out)
          clear hxy HX HY HT
          go_wp2_with fail
          refine wp_region_quiet_lit (by kernel_rfl) (by kernel_rfl) ?_
          repeat (first
            | (refine wpQuiet_neq rfl _ _ _ _ rfl #[Value.string x.name, Value.int .i64 x.prio, Value.int .i64 x.need, Value.int .i64 x.tries, Value.string x.tag] #[Value.string y.name, Value.int .i64 y.prio, Value.int .i64 y.need, Value.int .i64 y.tries, Value.string y.tag] false rfl rfl eqGuardJ HQ.out ?_; simp only [Act.put, List.setIfInBounds_toArray, List.set_cons_zero, List.set_cons_succ, Bool.not_false])
            | go_big_quiet_step (fail)
            | (refine wpQuiet_load_at rfl _ _ rfl (a.add (k * 5)) rfl [Value.string x.name, Value.int .i64 x.prio, Value.int .i64 x.need, Value.int .i64 x.tries, Value.string x.tag] _ ?_ Tryd.underlying49 rfl job_size ?_; (focus (rintro w5 ⟨n5, rfl⟩; exact hat.drewN n5)); simp only [Act.put, List.setIfInBounds_toArray, List.set_cons_zero, List.set_cons_succ])
            | (refine wpQuiet_load_at rfl _ _ rfl (b.add (k * 5)) rfl [Value.string y.name, Value.int .i64 y.prio, Value.int .i64 y.need, Value.int .i64 y.tries, Value.string y.tag] _ ?_ Tryd.underlying49 rfl job_size ?_; (focus (rintro w5 ⟨n5, rfl⟩; exact hbt.drewN n5)); simp only [Act.put, List.setIfInBounds_toArray, List.set_cons_zero, List.set_cons_succ]))
          refine wpQuiet_nil ?_
          intro _ hw'
          obtain ⟨nq, hw''⟩ := hw'
          subst hw''
          go_wp2_with fail
          go_ret
          exact ⟨by rw [decide_eq_false HN.out]; rfl, below_drewN hbr nq⟩
      · obtain rfl : k = l.length := by omega
        have he : l = m := by have := HT.out; rwa [List.take_length, HLEN.out, List.take_length] at this
        have HE := Lib.hid he
        clear HT he
        go_wp2_with fail
        go_ret
        exact ⟨by rw [decide_eq_true HE.out]; rfl, hbr⟩
  · have hb : ((l.length : Int) != (m.length : Int)) = true := by rw [bne_iff_ne]; omega
    have hne : l ≠ m := fun e => hlen (by rw [e])
    have HN := Lib.hid hne
    clear hne hlen
    go_enter Tryd.func60, Tryd.ntmps60
    go_wp2_with fail
    go_ret
    exact ⟨by rw [decide_eq_false HN.out]; rfl, Below.refl _ _⟩
end Go.Proofs.YtejdhcipmkaboaaDoor

/-
  The contract of slices.Equal at nodes.
-/
set_option linter.unusedVariables false
set_option linter.unusedSimpArgs false
namespace Go.Proofs.YtejdhcipmkaboaaDoor
open Go.RowKit
set_option maxHeartbeats 2000000 in
set_option maxRecDepth 100000 in
theorem seqN_any (p q : Option Addr) (c c' : Nat) (l m : List NodeD) (w : World) (hp : Elts w w.heap.size 3 p (l.map rowN)) (hq : Elts w w.heap.size 3 q (m.map rowN)) (hl : l.length ≤ 4611686018427387904) (hm : m.length ≤ 4611686018427387904) :
    Calls Tryd.prog 61 #[.slice p l.length c, .slice q m.length c'] w fun e w' => e = .returned (.bool (decide (l = m))) ∧ Below w.heap.size w w' := by
  by_cases hlen : l.length = m.length
  · have hb : ((l.length : Int) != (m.length : Int)) = false := by rw [hlen]; simp
    have h1 : l.length ≤ m.length := by omega
    have h2 : m.length ≤ l.length := by omega
    have HLEN := Lib.hid hlen
    clear hlen
    go_enter Tryd.func61, Tryd.ntmps61
    go_wp2_with fail
    go_loopw [13] (fun i wr => ∃ k : Nat, k ≤ l.length ∧ i = .int .i64 k ∧ Below w.heap.size w wr ∧ Hid (l.take k = m.take k)) (fun i _ => l.length - (intOf i).toNat)
    case atStart => exact ⟨0, Nat.zero_le _, rfl, Below.refl _ _, (show _ = _ from rfl)⟩
    case round =>
      obtain ⟨k, hk, rfl, hbr, HT⟩ := hrel
      by_cases hlt : k < l.length
      · have hkm : k < m.length := by omega
        have hx : l[k]? = some l[k] := List.getElem?_eq_getElem hlt
        have hy : m[k]? = some m[k] := List.getElem?_eq_getElem hkm
        generalize l[k] = x at *
        generalize m[k] = y at *
        have hi0 : (0 : Int) ≤ (k : Int) := by omega
        have hi1 : (k : Int) < (l.length : Int) := by omega
        have hi2 : (k : Int) < (m.length : Int) := by omega
        obtain ⟨a, rfl, hab, _, hat⟩ := (hp.below hbr).at_ (k := k) (r := rowN x) (by rw [List.getElem?_map, hx]; rfl)
        obtain ⟨b, rfl, hbb, _, hbt⟩ := (hq.below hbr).at_ (k := k) (r := rowN y) (by rw [List.getElem?_map, hy]; rfl)
        have HX := Lib.hid hx
        have HY := Lib.hid hy
        clear hx hy
        by_cases hxy : x = y
        · have HQ := Lib.hid (fun W => (eqInN x y W).trans (by rw [decide_eq_true hxy]))
          have HN := Lib.hid (take_snoc_eq HT.out HX.out (hxy ▸ HY.out))
          clear hxy HX HY HT
          go_wp2_with fail
          refine wp_region_quiet_lit (by kernel_rfl) (by kernel_rfl) ?_
          repeat (first
            | (refine wpQuiet_neq rfl _ _ _ _ rfl #[Value.string x.name, Value.int .i64 x.room, Value.string x.zone] #[Value.string y.name, Value.int .i64 y.room, Value.string y.zone] true rfl rfl eqGuardN HQ.out ?_; simp only [Act.put, List.setIfInBounds_toArray, List.set_cons_zero, List.set_cons_succ, Bool.not_true])
            | go_big_quiet_step (fail)
            | (refine wpQuiet_load_at rfl _ _ rfl (a.add (k * 3)) rfl [Value.string x.name, Value.int .i64 x.room, Value.string x.zone] _ ?_ Tryd.underlying68 rfl node_size ?_; (focus (rintro w5 ⟨n5, rfl⟩; exact hat.drewN n5)); simp only [Act.put, List.setIfInBounds_toArray, List.set_cons_zero, List.set_cons_succ])
            | (refine wpQuiet_load_at rfl _ _ rfl (b.add (k * 3)) rfl [Value.string y.name, Value.int .i64 y.room, Value.string y.zone] _ ?_ Tryd.underlying68 rfl node_size ?_; (focus (rintro w5 ⟨n5, rfl⟩; exact hbt.drewN n5)); simp only [Act.put, List.setIfInBounds_toArray, List.set_cons_zero, List.set_cons_succ]))
          refine wpQuiet_nil ?_
          intro _ hw'
          obtain ⟨nq, hw''⟩ := hw'
          subst hw''
          go_wp2_with fail
          go_roundw
          case rel => exact ⟨k + 1, by omega, by go_num, below_drewN hbr nq, HN.out⟩
          case measure => simp [intOf]; omega
        · have HQ := Lib.hid (fun W => (eqInN x y W).trans (by rw [decide_eq_false hxy]))
          have HN := Lib.hid (take_eq_ne hxy HX.out HY.out)
          clear hxy HX HY HT
          go_wp2_with fail
          refine wp_region_quiet_lit (by kernel_rfl) (by kernel_rfl) ?_
          repeat (first
            | (refine wpQuiet_neq rfl _ _ _ _ rfl #[Value.string x.name, Value.int .i64 x.room, Value.string x.zone] #[Value.string y.name, Value.int .i64 y.room, Value.string y.zone] false rfl rfl eqGuardN HQ.out ?_; simp only [Act.put, List.setIfInBounds_toArray, List.set_cons_zero, List.set_cons_succ, Bool.not_false])
            | go_big_quiet_step (fail)
            | (refine wpQuiet_load_at rfl _ _ rfl (a.add (k * 3)) rfl [Value.string x.name, Value.int .i64 x.room, Value.string x.zone] _ ?_ Tryd.underlying68 rfl node_size ?_; (focus (rintro w5 ⟨n5, rfl⟩; exact hat.drewN n5)); simp only [Act.put, List.setIfInBounds_toArray, List.set_cons_zero, List.set_cons_succ])
            | (refine wpQuiet_load_at rfl _ _ rfl (b.add (k * 3)) rfl [Value.string y.name, Value.int .i64 y.room, Value.string y.zone] _ ?_ Tryd.underlying68 rfl node_size ?_; (focus (rintro w5 ⟨n5, rfl⟩; exact hbt.drewN n5)); simp only [Act.put, List.setIfInBounds_toArray, List.set_cons_zero, List.set_cons_succ]))
          refine wpQuiet_nil ?_
          intro _ hw'
          obtain ⟨nq, hw''⟩ := hw'
          subst hw''
          go_wp2_with fail
          go_ret
          exact ⟨by rw [decide_eq_false HN.out]; rfl, below_drewN hbr nq⟩
      · obtain rfl : k = l.length := by omega
        have he : l = m := by have := HT.out; rwa [List.take_length, HLEN.out, List.take_length] at this
        have HE := Lib.hid he
        clear HT he
        go_wp2_with fail
        go_ret
        exact ⟨by rw [decide_eq_true HE.out]; rfl, hbr⟩
  · have hb : ((l.length : Int) != (m.length : Int)) = true := by rw [bne_iff_ne]; omega
    have hne : l ≠ m := fun e => hlen (by rw [e])
    have HN := Lib.hid hne
    clear hne hlen
    go_enter Tryd.func61, Tryd.ntmps61
    go_wp2_with fail
    go_ret
    exact ⟨by rw [decide_eq_false HN.out]; rfl, Below.refl _ _⟩
end Go.Proofs.YtejdhcipmkaboaaDoor

/-
  Steps of a walk through a region that draws its order, one by one. No program.
-/
set_option linter.unusedVariables false
set_option linter.unusedSimpArgs false
namespace Go.Proofs.YtejdhcipmkaboaaDoor
open Go.RowKit
section
variable {P : Program} {ops : Array Oper} {o : Oper} {a : Act} {w : World} {K : Act → World → Prop} {Q : Exit → Act → World → Prop} {E : Prop}
/-- A whole block is written by value. -/
theorem step_store_blk (hw : Region.wanted o (yielded ops a.tmps) = true) (ty : TypeId) (x y : Operand) (ho : o.op = .store ty x y) (g : Nat) (hx : a.eval x = .pointer (some ⟨g, 0, none⟩)) (t : TypeId) (cs cs' : Array Value) (hb : Blk w g t cs)
    (hy : a.eval y = .agg cs') (hi : (P.info? ty).map (·.size) = some cs'.size) (hs : cs.size = cs'.size) (h1 : cs'.all (·.oneCell') = true)
    (h : K (a.put o.dst undef) (w.setRow g cs')) : if Region.wanted o (yielded ops a.tmps) = true then Oper.wp P o a w K Q else E := by
  rw [if_pos hw]
  unfold Oper.wp execOp
  simp only [ho, hx, hy, Instr.storeAt, Instr.sureAddr, Sem.run_bind, Sem.run_pure, Result.andThen_ok, run_storeVar_row w g t ty cs cs' hb hi hs h1]
  exact h
end
/-- World W is w with new blocks and with writes to block g alone. -/
def GrB (w : World) (g : Nat) (W : World) : Prop := w.grownBy W (some g)
section
variable {w W W' : World} {g : Nat}
theorem GrB.start (w : World) (g : Nat) : GrB w g w.drew := ⟨rfl, rfl, rfl, Nat.le_refl _, fun _ _ _ => rfl⟩
theorem GrB.more (h : GrB w g W) (hb : Below W.heap.size W W') : GrB w g W' :=
  ⟨hb.os.trans h.os, hb.tape.trans h.tape, hb.output.trans h.output, Nat.le_trans h.size hb.size, fun k hk hne => (hb.block k (Nat.lt_of_lt_of_le hk h.size)).trans (h.block k hk hne)⟩
theorem GrB.row (h : GrB w g W) (cs : Array Value) : GrB w g (W.setRow g cs) :=
  ⟨h.os, h.tape, h.output, by simpa using h.size, fun k hk hne => (setRow_other W g k cs (fun e => hne (by rw [e]))).trans (h.block k hk hne)⟩
theorem GrB.blk {k : Nat} {t : TypeId} {cs : Array Value} (h : GrB w g W) (hb : Blk w k t cs) (hne : k ≠ g) : Blk W k t cs := (h.block k hb.lt (fun e => hne (by injection e))).trans hb
end
end Go.Proofs.YtejdhcipmkaboaaDoor

/-
  What the contract of up.Down says.
-/
set_option linter.unusedVariables false
set_option linter.unusedSimpArgs false
namespace Go.Proofs.YtejdhcipmkaboaaDoor
open Go.RowKit
def DownPost (w : World) (r : St × Bool × Nat) (e : Ending) (w' : World) : Prop :=
  ∃ t is er q1 q2 q3 d1 d2 d3, e = .returned (.tuple #[.agg #[.int .i64 t.rev, .slice q1 t.jobs.length d1, .slice q2 t.nodes.length d2, .slice q3 t.leases.length d3], .bool is, .int .i64 ((er : Nat) : Int)]) ∧ StM w' w'.heap.size q1 q2 q3 t ∧ Below w.heap.size w w' ∧ r = (t, is, er)
/-- Blocks of a size or more, of another kind than rows. -/
theorem blk_new_of {w : World} {n : Nat} (h : w.heap.size = n) (t : TypeId) (cs : Array Value) : Blk (w.alloc (.cells cs t)) n t cs := h ▸ Blk.new w t cs
set_option maxHeartbeats 2000000 in
set_option maxRecDepth 100000 in
theorem down_bad (s : St) (k : Int) (p1 p2 p3 : Option Addr) (c1 c2 c3 : Nat) (w : World) (hm : StM w w.heap.size p1 p2 p3 s) (hz : StSz s) (hT : Tabs w) (hc : checkE s ≠ 0) :
    Calls Tryd.prog 25 #[.agg #[.int .i64 s.rev, .slice p1 s.jobs.length c1, .slice p2 s.nodes.length c2, .slice p3 s.leases.length c3], .int .i64 k] w fun e w' => DownPost w (downR s k) e w' := by
  have hzs := zero_state_lit
  have bs := (Blk.new w 26 #[Value.int .i64 s.rev, Value.slice p1 s.jobs.length c1, Value.slice p2 s.nodes.length c2, Value.slice p3 s.leases.length c3]).alloc (.cells #[Value.int .i64 0, Value.slice none 0 0, Value.slice none 0 0, Value.slice none 0 0] 26)
  have bz := blk_new_of (show (w.alloc (.cells #[Value.int .i64 s.rev, Value.slice p1 s.jobs.length c1, Value.slice p2 s.nodes.length c2, Value.slice p3 s.leases.length c3] 26)).heap.size = w.heap.size + 1 by simp) 26 #[Value.int .i64 0, Value.slice none 0 0, Value.slice none 0 0, Value.slice none 0 0]
  have hB0 : Below w.heap.size w ((w.alloc (.cells #[Value.int .i64 s.rev, Value.slice p1 s.jobs.length c1, Value.slice p2 s.nodes.length c2, Value.slice p3 s.leases.length c3] 26)).alloc (.cells #[Value.int .i64 0, Value.slice none 0 0, Value.slice none 0 0, Value.slice none 0 0] 26)) := ((Below.refl _ _).alloc (Nat.le_refl _) _).alloc (by simp) _
  have hC := stCheck_any s p1 p2 p3 c1 c2 c3 _ ((hm.below hB0).more hB0.size) hz (hT.below hB0)
  have hR : downR s k = (⟨0, [], [], []⟩, false, checkE s) := by unfold downR; rw [if_pos hc]
  have hne : ((checkE s : Int) != 0) = true := by rw [bne_iff_ne]; omega
  generalize checkE s = ce at *
  have HC := Lib.hid hC
  have HR := Lib.hid hR
  clear hm hz hT hC hR hc
  go_enter Tryd.func25, Tryd.ntmps25
  go_upto_region 1 with (fail)
  generalize (w.alloc (.cells #[Value.int .i64 s.rev, Value.slice p1 s.jobs.length c1, Value.slice p2 s.nodes.length c2, Value.slice p3 s.leases.length c3] 26)).alloc _ = w0 at *
  go_wp2_with (refine wpList_load_blk rfl _ _ rfl w.heap.size rfl _ #[Value.int .i64 s.rev, Value.slice p1 s.jobs.length c1, Value.slice p2 s.nodes.length c2, Value.slice p3 s.leases.length c3] bs _ Tryd.underlying26 rfl state_size ?_)
  refine HC.out.mono ?_
  rintro e w1 ⟨rfl, hb1⟩
  have bz1 := bz.below hb1 bz.lt
  have hB1 := hB0.trans (hb1.mono hB0.size)
  go_wp2_with (refine wpList_store_blk rfl _ _ _ rfl (w.heap.size + 1) rfl _ _ #[Value.int .i64 0, Value.slice none 0 0, Value.slice none 0 0, Value.slice none 0 0] bz1 rfl state_size rfl (one_st4 _ _ _ _ _ _ _ _ _ _) ?_)
  refine bodyPost_ret (results_cell_tmp2 rfl _ rfl (bz1.setRow #[Value.int .i64 0, Value.slice none 0 0, Value.slice none 0 0, Value.slice none 0 0]) Tryd.underlying26 rfl state_size) rfl ?_
  exact ⟨⟨0, [], [], []⟩, false, ce, none, none, none, 0, 0, 0, rfl, ⟨.nil_, .nil_, .nil_⟩, below_setRow hB1 (Nat.le_succ _) _, HR.out⟩
set_option maxHeartbeats 2000000 in
set_option maxRecDepth 100000 in
theorem down_low (s : St) (k : Int) (p1 p2 p3 : Option Addr) (c1 c2 c3 : Nat) (w : World) (hm : StM w w.heap.size p1 p2 p3 s) (hz : StSz s) (hT : Tabs w) (hc : checkE s = 0) (hk : k < 1) :
    Calls Tryd.prog 25 #[.agg #[.int .i64 s.rev, .slice p1 s.jobs.length c1, .slice p2 s.nodes.length c2, .slice p3 s.leases.length c3], .int .i64 k] w fun e w' => DownPost w (downR s k) e w' := by
  have hzs := zero_state_lit
  have bs := (Blk.new w 26 #[Value.int .i64 s.rev, Value.slice p1 s.jobs.length c1, Value.slice p2 s.nodes.length c2, Value.slice p3 s.leases.length c3]).alloc (.cells #[Value.int .i64 0, Value.slice none 0 0, Value.slice none 0 0, Value.slice none 0 0] 26)
  have bz := blk_new_of (show (w.alloc (.cells #[Value.int .i64 s.rev, Value.slice p1 s.jobs.length c1, Value.slice p2 s.nodes.length c2, Value.slice p3 s.leases.length c3] 26)).heap.size = w.heap.size + 1 by simp) 26 #[Value.int .i64 0, Value.slice none 0 0, Value.slice none 0 0, Value.slice none 0 0]
  have hB0 : Below w.heap.size w ((w.alloc (.cells #[Value.int .i64 s.rev, Value.slice p1 s.jobs.length c1, Value.slice p2 s.nodes.length c2, Value.slice p3 s.leases.length c3] 26)).alloc (.cells #[Value.int .i64 0, Value.slice none 0 0, Value.slice none 0 0, Value.slice none 0 0] 26)) := ((Below.refl _ _).alloc (Nat.le_refl _) _).alloc (by simp) _
  have hC := stCheck_any s p1 p2 p3 c1 c2 c3 _ ((hm.below hB0).more hB0.size) hz (hT.below hB0)
  have hR : downR s k = (⟨0, [], [], []⟩, false, 1) := by
    unfold downR
    rw [if_neg (by rw [hc]; simp), if_pos]
    cases h : withinB k 1 3
    · rfl
    · have := withinB_iff.1 h; omega
  rw [hc] at hC
  have HC := Lib.hid hC
  have HR := Lib.hid hR
  clear hm hz hT hC hR hc
  go_enter Tryd.func25, Tryd.ntmps25
  go_upto_region 1 with (fail)
  generalize (w.alloc (.cells #[Value.int .i64 s.rev, Value.slice p1 s.jobs.length c1, Value.slice p2 s.nodes.length c2, Value.slice p3 s.leases.length c3] 26)).alloc _ = w0 at *
  go_wp2_with (refine wpList_load_blk rfl _ _ rfl w.heap.size rfl _ #[Value.int .i64 s.rev, Value.slice p1 s.jobs.length c1, Value.slice p2 s.nodes.length c2, Value.slice p3 s.leases.length c3] bs _ Tryd.underlying26 rfl state_size ?_)
  refine HC.out.mono ?_
  rintro e w1 ⟨rfl, hb1⟩
  have bz1 := bz.below hb1 bz.lt
  have hB1 := hB0.trans (hb1.mono hB0.size)
  go_wp2_with (refine wpList_store_blk rfl _ _ _ rfl (w.heap.size + 1) rfl _ _ #[Value.int .i64 0, Value.slice none 0 0, Value.slice none 0 0, Value.slice none 0 0] bz1 rfl state_size rfl (one_st4 _ _ _ _ _ _ _ _ _ _) ?_)
  refine bodyPost_ret (results_cell_tmp2 rfl _ rfl (bz1.setRow #[Value.int .i64 0, Value.slice none 0 0, Value.slice none 0 0, Value.slice none 0 0]) Tryd.underlying26 rfl state_size) rfl ?_
  exact ⟨⟨0, [], [], []⟩, false, 1, none, none, none, 0, 0, 0, rfl, ⟨.nil_, .nil_, .nil_⟩, below_setRow hB1 (Nat.le_succ _) _, HR.out⟩
set_option maxHeartbeats 2000000 in
set_option maxRecDepth 100000 in
theorem down_high (s : St) (k : Int) (p1 p2 p3 : Option Addr) (c1 c2 c3 : Nat) (w : World) (hm : StM w w.heap.size p1 p2 p3 s) (hz : StSz s) (hT : Tabs w) (hc : checkE s = 0) (hk : 3 < k) :
    Calls Tryd.prog 25 #[.agg #[.int .i64 s.rev, .slice p1 s.jobs.length c1, .slice p2 s.nodes.length c2, .slice p3 s.leases.length c3], .int .i64 k] w fun e w' => DownPost w (downR s k) e w' := by
  have hzs := zero_state_lit
  have bs := (Blk.new w 26 #[Value.int .i64 s.rev, Value.slice p1 s.jobs.length c1, Value.slice p2 s.nodes.length c2, Value.slice p3 s.leases.length c3]).alloc (.cells #[Value.int .i64 0, Value.slice none 0 0, Value.slice none 0 0, Value.slice none 0 0] 26)
  have bz := blk_new_of (show (w.alloc (.cells #[Value.int .i64 s.rev, Value.slice p1 s.jobs.length c1, Value.slice p2 s.nodes.length c2, Value.slice p3 s.leases.length c3] 26)).heap.size = w.heap.size + 1 by simp) 26 #[Value.int .i64 0, Value.slice none 0 0, Value.slice none 0 0, Value.slice none 0 0]
  have hB0 : Below w.heap.size w ((w.alloc (.cells #[Value.int .i64 s.rev, Value.slice p1 s.jobs.length c1, Value.slice p2 s.nodes.length c2, Value.slice p3 s.leases.length c3] 26)).alloc (.cells #[Value.int .i64 0, Value.slice none 0 0, Value.slice none 0 0, Value.slice none 0 0] 26)) := ((Below.refl _ _).alloc (Nat.le_refl _) _).alloc (by simp) _
  have hC := stCheck_any s p1 p2 p3 c1 c2 c3 _ ((hm.below hB0).more hB0.size) hz (hT.below hB0)
  have hR : downR s k = (⟨0, [], [], []⟩, false, 1) := by
    unfold downR
    rw [if_neg (by rw [hc]; simp), if_pos]
    cases h : withinB k 1 3
    · rfl
    · have := withinB_iff.1 h; omega
  have hk1 : decide (k < 1) = false := decide_eq_false (by omega)
  rw [hc] at hC
  have HC := Lib.hid hC
  have HR := Lib.hid hR
  clear hm hz hT hC hR hc
  go_enter Tryd.func25, Tryd.ntmps25
  go_upto_region 1 with (fail)
  generalize (w.alloc (.cells #[Value.int .i64 s.rev, Value.slice p1 s.jobs.length c1, Value.slice p2 s.nodes.length c2, Value.slice p3 s.leases.length c3] 26)).alloc _ = w0 at *
  go_wp2_with (refine wpList_load_blk rfl _ _ rfl w.heap.size rfl _ #[Value.int .i64 s.rev, Value.slice p1 s.jobs.length c1, Value.slice p2 s.nodes.length c2, Value.slice p3 s.leases.length c3] bs _ Tryd.underlying26 rfl state_size ?_)
  refine HC.out.mono ?_
  rintro e w1 ⟨rfl, hb1⟩
  have bz1 := bz.below hb1 bz.lt
  have hB1 := hB0.trans (hb1.mono hB0.size)
  go_wp2_with (refine wpList_store_blk rfl _ _ _ rfl (w.heap.size + 1) rfl _ _ #[Value.int .i64 0, Value.slice none 0 0, Value.slice none 0 0, Value.slice none 0 0] bz1 rfl state_size rfl (one_st4 _ _ _ _ _ _ _ _ _ _) ?_)
  refine bodyPost_ret (results_cell_tmp2 rfl _ rfl (bz1.setRow #[Value.int .i64 0, Value.slice none 0 0, Value.slice none 0 0, Value.slice none 0 0]) Tryd.underlying26 rfl state_size) rfl ?_
  exact ⟨⟨0, [], [], []⟩, false, 1, none, none, none, 0, 0, 0, rfl, ⟨.nil_, .nil_, .nil_⟩, below_setRow hB1 (Nat.le_succ _) _, HR.out⟩
end Go.Proofs.YtejdhcipmkaboaaDoor

/-
  The contract of up.Down, to version 1.
-/
set_option linter.unusedVariables false
set_option linter.unusedSimpArgs false
namespace Go.Proofs.YtejdhcipmkaboaaDoor
open Go.RowKit
set_option maxHeartbeats 8000000 in
set_option maxRecDepth 100000 in
theorem down_1 (s : St) (p1 p2 p3 : Option Addr) (c1 c2 c3 : Nat) (w : World) (hm : StM w w.heap.size p1 p2 p3 s) (hz : StSz s) (hT : Tabs w) (hc : checkE s = 0) :
    Calls Tryd.prog 25 #[.agg #[.int .i64 s.rev, .slice p1 s.jobs.length c1, .slice p2 s.nodes.length c2, .slice p3 s.leases.length c3], .int .i64 1] w fun e w' => DownPost w (downR s 1) e w' := by
  have hzs := zero_state_lit
  have hF := (fine_iff s).1 hc
  have lj : s.jobs.length ≤ 40 := hF.nj
  have ln : s.nodes.length ≤ 20 := hF.nn
  have ll : s.leases.length ≤ 40 := hF.nl
  have hR : downR s 1 = (downS 1 s, downB s 1, 0) := by
    unfold downR
    rw [if_neg (by rw [hc]; simp), if_neg (by decide)]
  have bs := (Blk.new w 26 #[Value.int .i64 s.rev, Value.slice p1 s.jobs.length c1, Value.slice p2 s.nodes.length c2, Value.slice p3 s.leases.length c3]).alloc (.cells #[Value.int .i64 0, Value.slice none 0 0, Value.slice none 0 0, Value.slice none 0 0] 26)
  have bz := blk_new_of (show (w.alloc (.cells #[Value.int .i64 s.rev, Value.slice p1 s.jobs.length c1, Value.slice p2 s.nodes.length c2, Value.slice p3 s.leases.length c3] 26)).heap.size = w.heap.size + 1 by simp) 26 #[Value.int .i64 0, Value.slice none 0 0, Value.slice none 0 0, Value.slice none 0 0]
  have hB0 : Below w.heap.size w ((w.alloc (.cells #[Value.int .i64 s.rev, Value.slice p1 s.jobs.length c1, Value.slice p2 s.nodes.length c2, Value.slice p3 s.leases.length c3] 26)).alloc (.cells #[Value.int .i64 0, Value.slice none 0 0, Value.slice none 0 0, Value.slice none 0 0] 26)) := ((Below.refl _ _).alloc (Nat.le_refl _) _).alloc (by simp) _
  have hC := stCheck_any s p1 p2 p3 c1 c2 c3 _ ((hm.below hB0).more hB0.size) hz (hT.below hB0)
  rw [hc] at hC
  have hO := fun (W : World) (hW : Below w.heap.size w W) => upOwn_any s p1 p2 p3 c1 c2 c3 W ((hm.below hW).more hW.size) (by omega) (by omega) (by omega)
  have HC := Lib.hid hC
  have HO := Lib.hid hO
  have HR := Lib.hid hR
  have HM := Lib.hid hm
  clear hm hz hT hC hR hO hc hF
  go_enter Tryd.func25, Tryd.ntmps25
  go_upto_region 1 with (fail)
  generalize (w.alloc (.cells #[Value.int .i64 s.rev, Value.slice p1 s.jobs.length c1, Value.slice p2 s.nodes.length c2, Value.slice p3 s.leases.length c3] 26)).alloc _ = w0 at *
  go_wp2_with (refine wpList_load_blk rfl _ _ rfl w.heap.size rfl _ #[Value.int .i64 s.rev, Value.slice p1 s.jobs.length c1, Value.slice p2 s.nodes.length c2, Value.slice p3 s.leases.length c3] bs _ Tryd.underlying26 rfl state_size ?_)
  refine HC.out.mono ?_
  rintro e w1 ⟨rfl, hb1⟩
  have bs1 := bs.below hb1 bs.lt
  have bz1 := bz.below hb1 bz.lt
  have hB1 := hB0.trans (hb1.mono hB0.size)
  clear bs bz hb1 HC
  go_wp2_with (refine wpList_load_blk rfl _ _ rfl w.heap.size rfl _ #[Value.int .i64 s.rev, Value.slice p1 s.jobs.length c1, Value.slice p2 s.nodes.length c2, Value.slice p3 s.leases.length c3] bs1 _ Tryd.underlying26 rfl state_size ?_)
  refine (HO.out w1 hB1).mono ?_
  rintro e w2 ⟨q1, q2, q3, d1, d2, d3, rfl, hO2, hb2⟩
  have bs2 := bs1.below hb2 bs1.lt
  have bz2 := bz1.below hb2 bz1.lt
  have hB2 := hB1.trans (hb2.mono hB1.size)
  have hO2 := hO2.less hB1.size
  have hgs : w.heap.size < w2.heap.size := bs2.lt
  have hgz : w.heap.size + 1 < w2.heap.size := bz2.lt
  clear bs1 bz1 hb2 HO hB1 hB0
  go_upto_region 7 with (refine wpList_store_new rfl _ _ _ rfl rfl 26 _ #[Value.int .i64 s.rev, Value.slice q1 s.jobs.length d1, Value.slice q2 s.nodes.length d2, Value.slice q3 s.leases.length d3] rfl state_size rfl (one_st4 _ _ _ _ _ _ _ _ _ _) ?_)
  have bd3 := Blk.new w2 26 #[Value.int .i64 s.rev, Value.slice q1 s.jobs.length d1, Value.slice q2 s.nodes.length d2, Value.slice q3 s.leases.length d3]
  have bs3 := bs2.alloc (.cells #[Value.int .i64 s.rev, Value.slice q1 s.jobs.length d1, Value.slice q2 s.nodes.length d2, Value.slice q3 s.leases.length d3] 26)
  have bz3 := bz2.alloc (.cells #[Value.int .i64 s.rev, Value.slice q1 s.jobs.length d1, Value.slice q2 s.nodes.length d2, Value.slice q3 s.leases.length d3] 26)
  have hO3 := hO2.below ((Below.refl w2.heap.size w2).alloc (Nat.le_refl _) (.cells #[Value.int .i64 s.rev, Value.slice q1 s.jobs.length d1, Value.slice q2 s.nodes.length d2, Value.slice q3 s.leases.length d3] 26))
  have hB3 := hB2.alloc hB2.size (.cells #[Value.int .i64 s.rev, Value.slice q1 s.jobs.length d1, Value.slice q2 s.nodes.length d2, Value.slice q3 s.leases.length d3] 26)
  clear bs2 bz2 hO2 hB2
  generalize hgd : w2.heap.size = gd at *
  generalize w2.alloc _ = w3 at *
  clear hgd
  have e0 : w3.cell? ⟨gd, 0, none⟩ = some (.int .i64 s.rev) := bd3.cell 0
  have f0 := bd3.frozen 0
  have bd4 : Blk (w3.setCell ⟨gd, 0, none⟩ (.int .i64 0)) gd 26 #[Value.int .i64 0, Value.slice q1 s.jobs.length d1, Value.slice q2 s.nodes.length d2, Value.slice q3 s.leases.length d3] := bd3.set_ 0 _
  have bs4 := bs3.far (p := ⟨gd, 0, none⟩) (show w.heap.size ≠ gd by omega) (.int .i64 0)
  have bz4 := bz3.far (p := ⟨gd, 0, none⟩) (show w.heap.size + 1 ≠ gd by omega) (.int .i64 0)
  have hO4 := hO3.other (grow_cell w3 gd 0 (.int .i64 0)) bd3 (by decide) (by decide) (by decide)
  have hB4 := hB3.setCell (p := ⟨gd, 0, none⟩) (show w.heap.size ≤ gd by omega) (.int .i64 0)
  clear bs3 bz3 bd3 hO3 hB3
  go_upto_region 9 with (fail)
  clear e0 f0
  generalize w3.setCell ⟨gd, 0, none⟩ (.int .i64 0) = w4 at *
  have e1 : w4.cell? ⟨gd, 1, none⟩ = some (.slice q1 s.jobs.length d1) := bd4.cell 1
  go_wp2_with fail
  clear e1
  go_loopw [33] (fun i wr => ∃ k : Nat, k ≤ s.jobs.length ∧ i = .int .i64 k ∧ StOwn wr w.heap.size q1 q2 q3 d1 d2 d3 ⟨0, mixL (downJ 1) s.jobs k, s.nodes, s.leases⟩ ∧ Below w.heap.size w wr ∧ Blk wr gd 26 #[Value.int .i64 0, Value.slice q1 s.jobs.length d1, Value.slice q2 s.nodes.length d2, Value.slice q3 s.leases.length d3] ∧ Blk wr w.heap.size 26 #[Value.int .i64 s.rev, Value.slice p1 s.jobs.length c1, Value.slice p2 s.nodes.length c2, Value.slice p3 s.leases.length c3] ∧ Blk wr (w.heap.size + 1) 26 #[Value.int .i64 0, Value.slice none 0 0, Value.slice none 0 0, Value.slice none 0 0]) (fun i _ => s.jobs.length - (intOf i).toNat)
  case atStart => exact ⟨0, Nat.zero_le _, rfl, by rw [mixL_zero]; exact ⟨hO4.j, hO4.n, hO4.l⟩, hB4, bd4, bs4, bz4⟩
  case round =>
    clear hO4 hB4 bd4 bs4 bz4
    obtain ⟨k, hk, rfl, hOr, hBr, bdr, bsr, bzr⟩ := hrel
    by_cases hlt : k < s.jobs.length
    · have hx : s.jobs[k]? = some s.jobs[k] := List.getElem?_eq_getElem hlt
      generalize s.jobs[k] = x at *
      have hmx := mixL_at (downJ 1) s.jobs k x hx
      have hms := mixL_succ (downJ 1) s.jobs k x hx
      have hml := mixL_len (downJ 1) s.jobs k
      generalize hmk : mixL (downJ 1) s.jobs (k + 1) = js' at *
      generalize mixL (downJ 1) s.jobs k = js at *
      have hk0 : (0 : Int) ≤ (k : Int) := by omega
      have hk1 : (k : Int) < (s.jobs.length : Int) := by omega
      obtain ⟨g, cur, rfl, hbg, hgb, hcs, hcc⟩ := hOr.j.where_ (by rw [List.length_map, hml]; omega)
      have e1 : wr.cell? ⟨gd, 1, none⟩ = some (.slice (some ⟨g, 0, none⟩) s.jobs.length d1) := bdr.cell 1
      obtain ⟨e3, f3⟩ := hOr.j.cellAt (k := k) (j := 4) (r := rowJ x) (v := .string x.tag) (by rw [List.getElem?_map, hmx]; rfl) rfl
      have hO3 := hOr.setJ hmx 4 ⟨x.name, x.prio, x.need, x.tries, ByteArray.empty⟩ (.string ⟨#[]⟩) (by decide) rfl
      obtain ⟨bd3, hbg3⟩ := hOr.keepJ (by show 0 < js.length; omega) bdr (by decide) (k * 5 + 4) (.string ⟨#[]⟩)
      obtain ⟨bs3, _⟩ := hOr.keepJ (by show 0 < js.length; omega) bsr (by decide) (k * 5 + 4) (.string ⟨#[]⟩)
      obtain ⟨bz3, _⟩ := hOr.keepJ (by show 0 < js.length; omega) bzr (by decide) (k * 5 + 4) (.string ⟨#[]⟩)
      have hB3 : Below w.heap.size w (wr.setCell ⟨g, k * 5 + 4, none⟩ (.string ⟨#[]⟩)) := hBr.setCell (p := ⟨g, k * 5 + 4, none⟩) hbg3 _
      clear hOr bdr bsr bzr hgb
      have hms2 : js' = (js.set k ⟨x.name, x.prio, x.need, x.tries, ByteArray.empty⟩).set k ⟨x.name, x.prio, x.need, 0, ByteArray.empty⟩ := by rw [hms, List.set_set]; rfl
      have hmx2 : (js.set k ⟨x.name, x.prio, x.need, x.tries, ByteArray.empty⟩)[k]? = some ⟨x.name, x.prio, x.need, x.tries, ByteArray.empty⟩ := List.getElem?_set_self (by omega)
      have hml2 : (js.set k ⟨x.name, x.prio, x.need, x.tries, ByteArray.empty⟩).length = s.jobs.length := by rw [List.length_set]; exact hml
      generalize js.set k ⟨x.name, x.prio, x.need, x.tries, ByteArray.empty⟩ = js2 at *
      have HO3 := Lib.hid hO3
      have HMS := Lib.hid hms2
      clear hO3 hms hms2 hmx
      go_upto_region 14 with (fail)
      clear e1 e3 f3
      generalize wr.setCell ⟨g, k * 5 + 4, none⟩ (.string ⟨#[]⟩) = w5 at *
      have hO3 := HO3.out
      have e1 : w5.cell? ⟨gd, 1, none⟩ = some (.slice (some ⟨g, 0, none⟩) s.jobs.length d1) := bd3.cell 1
      obtain ⟨e3, f3⟩ := hO3.j.cellAt (k := k) (j := 3) (r := rowJ ⟨x.name, x.prio, x.need, x.tries, ByteArray.empty⟩) (v := .int .i64 x.tries) (by rw [List.getElem?_map, hmx2]; rfl) rfl
      have hO5 := hO3.setJ hmx2 3 ⟨x.name, x.prio, x.need, 0, ByteArray.empty⟩ (.int .i64 0) (by decide) rfl
      obtain ⟨bd5, hbg5⟩ := hO3.keepJ (by show 0 < js2.length; omega) bd3 (by decide) (k * 5 + 3) (.int .i64 0)
      obtain ⟨bs5, _⟩ := hO3.keepJ (by show 0 < js2.length; omega) bs3 (by decide) (k * 5 + 3) (.int .i64 0)
      obtain ⟨bz5, _⟩ := hO3.keepJ (by show 0 < js2.length; omega) bz3 (by decide) (k * 5 + 3) (.int .i64 0)
      have hB5 : Below w.heap.size w (w5.setCell ⟨g, k * 5 + 3, none⟩ (.int .i64 0)) := hB3.setCell (p := ⟨g, k * 5 + 3, none⟩) hbg5 _
      have HO5 := Lib.hid hO5
      clear hO3 HO3 hO5 bd3 bs3 bz3 hB3 hmx2
      go_wp2_with fail
      go_roundw
      case rel => exact ⟨k + 1, by omega, by go_num, by rw [hmk, HMS.out]; exact HO5.out, hB5, bd5, bs5, bz5⟩
      case measure => simp [intOf]; omega
    · obtain rfl : k = s.jobs.length := by omega
      rw [mixL_end] at hOr
      have hlen : (s.jobs.map (downJ 1)).length = s.jobs.length := List.length_map _
      generalize hjs : s.jobs.map (downJ 1) = js at *
      have HJS := Lib.hid hjs
      have HLEN := Lib.hid hlen
      clear hjs hlen
      obtain ⟨wo, rfl⟩ : ∃ wo : World, wo = wr := ⟨_, rfl⟩
      have e1 : wo.cell? ⟨gd, 2, none⟩ = some (.slice q2 s.nodes.length d2) := bdr.cell 2
      go_wp2_with fail
      clear e1
      go_loopw [54] (fun i wr => ∃ k : Nat, k ≤ s.nodes.length ∧ i = .int .i64 k ∧ StOwn wr w.heap.size q1 q2 q3 d1 d2 d3 ⟨0, js, mixL (downN 1) s.nodes k, s.leases⟩ ∧ Below w.heap.size w wr ∧ Blk wr gd 26 #[Value.int .i64 0, Value.slice q1 s.jobs.length d1, Value.slice q2 s.nodes.length d2, Value.slice q3 s.leases.length d3] ∧ Blk wr w.heap.size 26 #[Value.int .i64 s.rev, Value.slice p1 s.jobs.length c1, Value.slice p2 s.nodes.length c2, Value.slice p3 s.leases.length c3] ∧ Blk wr (w.heap.size + 1) 26 #[Value.int .i64 0, Value.slice none 0 0, Value.slice none 0 0, Value.slice none 0 0]) (fun i _ => s.nodes.length - (intOf i).toNat)
      case atStart => exact ⟨0, Nat.zero_le _, rfl, by rw [mixL_zero]; exact hOr, hBr, bdr, bsr, bzr⟩
      case round =>
        clear hOr hBr bdr bsr bzr
        obtain ⟨k, hk, rfl, hOr, hBr, bdr, bsr, bzr⟩ := hrel
        by_cases hlt : k < s.nodes.length
        · have hx : s.nodes[k]? = some s.nodes[k] := List.getElem?_eq_getElem hlt
          generalize s.nodes[k] = x at *
          have hmx := mixL_at (downN 1) s.nodes k x hx
          have hms := mixL_succ (downN 1) s.nodes k x hx
          have hml := mixL_len (downN 1) s.nodes k
          generalize hmk : mixL (downN 1) s.nodes (k + 1) = ns' at *
          generalize mixL (downN 1) s.nodes k = ns at *
          have hk0 : (0 : Int) ≤ (k : Int) := by omega
          have hk1 : (k : Int) < (s.nodes.length : Int) := by omega
          obtain ⟨g, cur, rfl, hbg, hgb, hcs, hcc⟩ := hOr.n.where_ (by rw [List.length_map, hml]; omega)
          have e1 : wr.cell? ⟨gd, 2, none⟩ = some (.slice (some ⟨g, 0, none⟩) s.nodes.length d2) := bdr.cell 2
          obtain ⟨e3, f3⟩ := hOr.n.cellAt (k := k) (j := 2) (r := rowN x) (v := .string x.zone) (by rw [List.getElem?_map, hmx]; rfl) rfl
          have hO3 := hOr.setN hmx 2 (downN 1 x) (.string ⟨#[]⟩) (by decide) rfl
          obtain ⟨bd3, hbg3⟩ := hOr.keepN (by show 0 < ns.length; omega) bdr (by decide) (k * 3 + 2) (.string ⟨#[]⟩)
          obtain ⟨bs3, _⟩ := hOr.keepN (by show 0 < ns.length; omega) bsr (by decide) (k * 3 + 2) (.string ⟨#[]⟩)
          obtain ⟨bz3, _⟩ := hOr.keepN (by show 0 < ns.length; omega) bzr (by decide) (k * 3 + 2) (.string ⟨#[]⟩)
          have hB3 : Below w.heap.size w (wr.setCell ⟨g, k * 3 + 2, none⟩ (.string ⟨#[]⟩)) := hBr.setCell (p := ⟨g, k * 3 + 2, none⟩) hbg3 _
          rw [← hms] at hO3
          have HO3 := Lib.hid hO3
          clear hOr bdr bsr bzr hgb hO3 hms hmx
          go_wp2_with fail
          go_roundw
          case rel => exact ⟨k + 1, by omega, by go_num, by rw [hmk]; exact HO3.out, hB3, bd3, bs3, bz3⟩
          case measure => simp [intOf]; omega
        · obtain rfl : k = s.nodes.length := by omega
          rw [mixL_end] at hOr
          have hds : (⟨0, js, s.nodes.map (downN 1), s.leases⟩ : St) = downS 1 s := by rw [← HJS.out]; rfl
          rw [hds] at hOr
          have hl1 : (downS 1 s).jobs.length = s.jobs.length := List.length_map _
          have hl2 : (downS 1 s).nodes.length = s.nodes.length := List.length_map _
          have hl3 : (downS 1 s).leases.length = s.leases.length := rfl
          have hl4 : (downS 1 s).rev = 0 := rfl
          have hSt := upSteps_any (downS 1 s) 1 3 (by decide) (by decide) (by decide) q1 q2 q3 d1 d2 d3 wr hOr.m (by omega) (by omega) (by omega)
          have hul := upTo_len (downS 1 s) 1 (3 - 1)
          have hu : upTo (downS 1 s) 1 (3 - 1) = upLast s 1 := rfl
          rw [hu] at hSt hul
          have hdb : downB s 1 = (decide ((upLast s 1).rev = s.rev) && (decide ((upLast s 1).jobs = s.jobs) && decide ((upLast s 1).nodes = s.nodes))) := rfl
          rw [hl1, hl2, hl3, hl4] at hSt
          rw [hl1, hl2, hl3] at hul
          have HD := Lib.hid (And.intro hl1 (And.intro hl2 (And.intro hl3 hl4)))
          have HU := Lib.hid hul
          have HDB := Lib.hid hdb
          have HS := Lib.hid hSt
          generalize upLast s 1 = u at *
          generalize downS 1 s = ds at *
          clear hSt hul hl1 hl2 hl3 hl4 hds hu hdb HJS HLEN
          go_wp2_with (refine wpList_load_blk rfl _ _ rfl gd rfl _ #[Value.int .i64 0, Value.slice q1 s.jobs.length d1, Value.slice q2 s.nodes.length d2, Value.slice q3 s.leases.length d3] bdr _ Tryd.underlying26 rfl state_size ?_)
          refine HS.out.mono ?_
          rintro e w6 ⟨r1, r2, r3, g1, g2, g3, rfl, hO6, hb6⟩
          obtain ⟨ul1, ul2, ul3⟩ := HU.out
          rw [ul1, ul2, ul3]
          have bd6 := bdr.below hb6 bdr.lt
          have bs6 := bsr.below hb6 bsr.lt
          have bz6 := bzr.below hb6 bzr.lt
          have hD6 := hOr.below hb6
          have hB6 := hBr.trans (hb6.mono hBr.size)
          clear bdr bsr bzr hOr hb6 hBr ul1 ul2 ul3 HS
          go_upto_region 24 with (refine wpList_store_new rfl _ _ _ rfl rfl 26 _ #[Value.int .i64 u.rev, Value.slice r1 s.jobs.length g1, Value.slice r2 s.nodes.length g2, Value.slice r3 s.leases.length g3] rfl state_size rfl (one_st4 _ _ _ _ _ _ _ _ _ _) ?_)
          have hb7 : Below w6.heap.size w6 (w6.alloc (.cells #[Value.int .i64 u.rev, Value.slice r1 s.jobs.length g1, Value.slice r2 s.nodes.length g2, Value.slice r3 s.leases.length g3] 26)) := (Below.refl _ _).alloc (Nat.le_refl _) _
          have bu7 := Blk.new w6 26 #[Value.int .i64 u.rev, Value.slice r1 s.jobs.length g1, Value.slice r2 s.nodes.length g2, Value.slice r3 s.leases.length g3]
          have bd7 := bd6.alloc (.cells #[Value.int .i64 u.rev, Value.slice r1 s.jobs.length g1, Value.slice r2 s.nodes.length g2, Value.slice r3 s.leases.length g3] 26)
          have bs7 := bs6.alloc (.cells #[Value.int .i64 u.rev, Value.slice r1 s.jobs.length g1, Value.slice r2 s.nodes.length g2, Value.slice r3 s.leases.length g3] 26)
          have bz7 := bz6.alloc (.cells #[Value.int .i64 u.rev, Value.slice r1 s.jobs.length g1, Value.slice r2 s.nodes.length g2, Value.slice r3 s.leases.length g3] 26)
          have hD7 := hD6.below hb7
          have hU7 := (hO6.below hb7).m
          have hB7 := hB6.alloc hB6.size (.cells #[Value.int .i64 u.rev, Value.slice r1 s.jobs.length g1, Value.slice r2 s.nodes.length g2, Value.slice r3 s.leases.length g3] 26)
          have hdu : gd < w6.heap.size := bd6.lt
          generalize hgu : w6.heap.size = gu at *
          generalize w6.alloc _ = w7 at *
          clear bd6 bs6 bz6 hD6 hO6 hB6 hb7 hgu
          obtain ⟨ul1, ul2, ul3⟩ := HU.out
          have hJ := fun (W : World) (hW : Abv w7 W) => seqJ_any r1 p1 g1 c1 u.jobs s.jobs W ((hU7.j.below hW).more hW.size) (((HM.out.j.below hB7).below (hW.mono hB7.size)).more (Nat.le_trans hB7.size hW.size)) (by omega) (by omega)
          have hN := fun (W : World) (hW : Abv w7 W) => seqN_any r2 p2 g2 c2 u.nodes s.nodes W ((hU7.n.below hW).more hW.size) (((HM.out.n.below hB7).below (hW.mono hB7.size)).more (Nat.le_trans hB7.size hW.size)) (by omega) (by omega)
          rw [ul1] at hJ
          rw [ul2] at hN
          have HJ := Lib.hid hJ
          have HN := Lib.hid hN
          clear hJ hN
          have hCells : ∀ (W : World), GrB w7 (w.heap.size + 1) W → (W.cell? ⟨gd, 0, none⟩ = some (.int .i64 0) ∧ W.cell? ⟨gd, 1, none⟩ = some (.slice q1 s.jobs.length d1) ∧ W.cell? ⟨gd, 2, none⟩ = some (.slice q2 s.nodes.length d2) ∧ W.cell? ⟨gd, 3, none⟩ = some (.slice q3 s.leases.length d3)) ∧
              (W.cell? ⟨gu, 0, none⟩ = some (.int .i64 u.rev) ∧ W.cell? ⟨gu, 1, none⟩ = some (.slice r1 s.jobs.length g1) ∧ W.cell? ⟨gu, 2, none⟩ = some (.slice r2 s.nodes.length g2)) ∧
              W.cell? ⟨w.heap.size, 0, none⟩ = some (.int .i64 s.rev) ∧ W.cell? ⟨w.heap.size, 1, none⟩ = some (.slice p1 s.jobs.length c1) ∧ W.cell? ⟨w.heap.size, 2, none⟩ = some (.slice p2 s.nodes.length c2) := fun W hW =>
            ⟨⟨(hW.blk bd7 (by omega)).cell 0, (hW.blk bd7 (by omega)).cell 1, (hW.blk bd7 (by omega)).cell 2, (hW.blk bd7 (by omega)).cell 3⟩, ⟨(hW.blk bu7 (by omega)).cell 0, (hW.blk bu7 (by omega)).cell 1, (hW.blk bu7 (by omega)).cell 2⟩, (hW.blk bs7 (by omega)).cell 0, (hW.blk bs7 (by omega)).cell 1, (hW.blk bs7 (by omega)).cell 2⟩
          have HQ := Lib.hid hCells
          have hZ : ∀ (W : World), Abv w7 W → Blk W (w.heap.size + 1) 26 #[Value.int .i64 0, Value.slice none 0 0, Value.slice none 0 0, Value.slice none 0 0] := fun W hW => bz7.below hW bz7.lt
          have HZ := Lib.hid hZ
          have hfin : ∀ W, Abv w7 W → StM (W.setRow (w.heap.size + 1) #[Value.int .i64 0, Value.slice q1 s.jobs.length d1, Value.slice q2 s.nodes.length d2, Value.slice q3 s.leases.length d3]) (W.setRow (w.heap.size + 1) #[Value.int .i64 0, Value.slice q1 s.jobs.length d1, Value.slice q2 s.nodes.length d2, Value.slice q3 s.leases.length d3]).heap.size q1 q2 q3 ds ∧ Below w.heap.size w (W.setRow (w.heap.size + 1) #[Value.int .i64 0, Value.slice q1 s.jobs.length d1, Value.slice q2 s.nodes.length d2, Value.slice q3 s.leases.length d3]) ∧ Blk (W.setRow (w.heap.size + 1) #[Value.int .i64 0, Value.slice q1 s.jobs.length d1, Value.slice q2 s.nodes.length d2, Value.slice q3 s.leases.length d3]) (w.heap.size + 1) 26 #[Value.int .i64 0, Value.slice q1 s.jobs.length d1, Value.slice q2 s.nodes.length d2, Value.slice q3 s.leases.length d3] := fun W hW =>
            ⟨((hD7.below hW).other (growR W (w.heap.size + 1) #[Value.int .i64 0, Value.slice q1 s.jobs.length d1, Value.slice q2 s.nodes.length d2, Value.slice q3 s.leases.length d3]) (hZ W hW) (by decide) (by decide) (by decide)).m, below_setRow (hB7.trans (Below.mono hW hB7.size)) (Nat.le_succ _) #[Value.int .i64 0, Value.slice q1 s.jobs.length d1, Value.slice q2 s.nodes.length d2, Value.slice q3 s.leases.length d3], (hZ W hW).setRow #[Value.int .i64 0, Value.slice q1 s.jobs.length d1, Value.slice q2 s.nodes.length d2, Value.slice q3 s.leases.length d3]⟩
          have HFIN := Lib.hid hfin
          clear hU7 ul1 ul2 ul3 hCells hZ hfin hD7 bd7 bu7 bs7 bz7 hB7
          have hrv : (u.rev == s.rev) = decide (u.rev = s.rev) := by rw [Bool.eq_iff_iff]; simp
          have HDB2 := Lib.hid (HDB.out)
          generalize decide (u.rev = s.rev) = xr at *
          generalize decide (u.jobs = s.jobs) = xj at *
          generalize decide (u.nodes = s.nodes) = xn at *
          clear HDB
          (try simp only [Act.put, List.setIfInBounds_toArray, List.set_cons_zero, List.set_cons_succ, List.getElem_toArray, List.getElem_cons_zero, List.getElem_cons_succ])
          have A0 : Abv w7 w7.drew := (Below.refl _ _).drew
          have G0 : GrB w7 (w.heap.size + 1) w7.drew := GrB.start _ _
          have hone := one_st4 0 q1 q2 q3 s.jobs.length s.nodes.length s.leases.length d1 d2 d3
          cases xr
          · skip
            refine wp_region_held_drew (S := GrB w7 (w.heap.size + 1)) (by kernel_rfl) G0 (fun hHeld => ?_)
            refine wpAnyH_take (i := 0) (v := ?_) rfl (by kernel_rfl) (by kernel_rfl) (by kernel_rfl) (fun _ _ _ h => h) (Or.inl ⟨by rfl, ?_⟩) (by assumption) ?_
            rotate_left
            · (intro w5 hw5; (try dsimp only at hw5); obtain ⟨⟨k0, k1, k2, k3⟩, ⟨k4, k5, k6⟩, k7, k8, k9⟩ := HQ.out w5 hw5; go_simp; (try with_reducible rfl))
            (try simp only [Act.put, List.setIfInBounds_toArray, List.set_cons_zero, List.set_cons_succ, List.getElem_toArray, List.getElem_cons_zero, List.getElem_cons_succ])
            refine wpAnyH_take (i := 1) (v := ?_) rfl (by kernel_rfl) (by kernel_rfl) (by kernel_rfl) (fun _ _ _ h => h) (Or.inl ⟨by rfl, ?_⟩) (by assumption) ?_
            rotate_left
            · (intro w5 hw5; (try dsimp only at hw5); obtain ⟨⟨k0, k1, k2, k3⟩, ⟨k4, k5, k6⟩, k7, k8, k9⟩ := HQ.out w5 hw5; go_simp; (try with_reducible rfl))
            (try simp only [Act.put, List.setIfInBounds_toArray, List.set_cons_zero, List.set_cons_succ, List.getElem_toArray, List.getElem_cons_zero, List.getElem_cons_succ])
            refine wpAnyH_take (i := 2) (v := ?_) rfl (by kernel_rfl) (by kernel_rfl) (by kernel_rfl) (fun _ _ _ h => h) (Or.inl ⟨by rfl, ?_⟩) (by assumption) ?_
            rotate_left
            · (intro w5 hw5; (try dsimp only at hw5); obtain ⟨⟨k0, k1, k2, k3⟩, ⟨k4, k5, k6⟩, k7, k8, k9⟩ := HQ.out w5 hw5; go_simp; (try with_reducible rfl))
            (try simp only [Act.put, List.setIfInBounds_toArray, List.set_cons_zero, List.set_cons_succ, List.getElem_toArray, List.getElem_cons_zero, List.getElem_cons_succ])
            refine wpAnyH_take (i := 3) (v := ?_) rfl (by kernel_rfl) (by kernel_rfl) (by kernel_rfl) (fun _ _ _ h => h) (Or.inl ⟨by rfl, ?_⟩) (by assumption) ?_
            rotate_left
            · (intro w5 hw5; (try dsimp only at hw5); obtain ⟨⟨k0, k1, k2, k3⟩, ⟨k4, k5, k6⟩, k7, k8, k9⟩ := HQ.out w5 hw5; go_simp; (try with_reducible rfl))
            (try simp only [Act.put, List.setIfInBounds_toArray, List.set_cons_zero, List.set_cons_succ, List.getElem_toArray, List.getElem_cons_zero, List.getElem_cons_succ])
            refine wpAnyH_take (i := 4) (v := ?_) rfl (by kernel_rfl) (by kernel_rfl) (by kernel_rfl) (fun _ _ _ h => h) (Or.inl ⟨by rfl, ?_⟩) (by assumption) ?_
            rotate_left
            · (intro w5 hw5; (try dsimp only at hw5); obtain ⟨⟨k0, k1, k2, k3⟩, ⟨k4, k5, k6⟩, k7, k8, k9⟩ := HQ.out w5 hw5; go_simp; (try with_reducible rfl))
            (try simp only [Act.put, List.setIfInBounds_toArray, List.set_cons_zero, List.set_cons_succ, List.getElem_toArray, List.getElem_cons_zero, List.getElem_cons_succ])
            refine wpAnyH_take (i := 5) (v := ?_) rfl (by kernel_rfl) (by kernel_rfl) (by kernel_rfl) (fun _ _ _ h => h) (Or.inl ⟨by rfl, ?_⟩) (by assumption) ?_
            rotate_left
            · (intro w5 hw5; (try dsimp only at hw5); obtain ⟨⟨k0, k1, k2, k3⟩, ⟨k4, k5, k6⟩, k7, k8, k9⟩ := HQ.out w5 hw5; go_simp; (try with_reducible rfl))
            (try simp only [Act.put, List.setIfInBounds_toArray, List.set_cons_zero, List.set_cons_succ, List.getElem_toArray, List.getElem_cons_zero, List.getElem_cons_succ])
            refine wpAnyH_take (i := 6) (v := ?_) rfl (by kernel_rfl) (by kernel_rfl) (by kernel_rfl) (fun _ _ _ h => h) (Or.inl ⟨by rfl, ?_⟩) (by assumption) ?_
            rotate_left
            · (intro w5 hw5; (try dsimp only at hw5); obtain ⟨⟨k0, k1, k2, k3⟩, ⟨k4, k5, k6⟩, k7, k8, k9⟩ := HQ.out w5 hw5; go_simp; (try with_reducible rfl))
            (try simp only [Act.put, List.setIfInBounds_toArray, List.set_cons_zero, List.set_cons_succ, List.getElem_toArray, List.getElem_cons_zero, List.getElem_cons_succ])
            refine wpAnyH_take (i := 7) (v := undef) rfl (by kernel_rfl) (by kernel_rfl) (by kernel_rfl) (fun _ _ _ h => h) (Or.inr ⟨by rfl, rfl⟩) (by assumption) ?_
            (try simp only [Act.put, List.setIfInBounds_toArray, List.set_cons_zero, List.set_cons_succ, List.getElem_toArray, List.getElem_cons_zero, List.getElem_cons_succ])
            refine wpAnyH_take (i := 8) (v := undef) rfl (by kernel_rfl) (by kernel_rfl) (by kernel_rfl) (fun _ _ _ h => h) (Or.inr ⟨by rfl, rfl⟩) (by assumption) ?_
            (try simp only [Act.put, List.setIfInBounds_toArray, List.set_cons_zero, List.set_cons_succ, List.getElem_toArray, List.getElem_cons_zero, List.getElem_cons_succ])
            refine wpAnyH_take (i := 9) (v := undef) rfl (by kernel_rfl) (by kernel_rfl) (by kernel_rfl) (fun _ _ _ h => h) (Or.inr ⟨by rfl, rfl⟩) (by assumption) ?_
            (try simp only [Act.put, List.setIfInBounds_toArray, List.set_cons_zero, List.set_cons_succ, List.getElem_toArray, List.getElem_cons_zero, List.getElem_cons_succ])
            refine wpAnyH_take (i := 10) (v := undef) rfl (by kernel_rfl) (by kernel_rfl) (by kernel_rfl) (fun _ _ _ h => h) (Or.inr ⟨by rfl, rfl⟩) (by assumption) ?_
            (try simp only [Act.put, List.setIfInBounds_toArray, List.set_cons_zero, List.set_cons_succ, List.getElem_toArray, List.getElem_cons_zero, List.getElem_cons_succ])
            refine wpAnyH_take (i := 11) (v := undef) rfl (by kernel_rfl) (by kernel_rfl) (by kernel_rfl) (fun _ _ _ h => h) (Or.inr ⟨by rfl, rfl⟩) (by assumption) ?_
            (try simp only [Act.put, List.setIfInBounds_toArray, List.set_cons_zero, List.set_cons_succ, List.getElem_toArray, List.getElem_cons_zero, List.getElem_cons_succ])
            refine wpAnyH_take (i := 12) (v := ?_) rfl (by kernel_rfl) (by kernel_rfl) (by kernel_rfl) (fun _ _ _ h => h) (Or.inl ⟨by rfl, ?_⟩) (by assumption) ?_
            rotate_left
            · (intro w5 hw5; (try dsimp only at hw5); obtain ⟨⟨k0, k1, k2, k3⟩, ⟨k4, k5, k6⟩, k7, k8, k9⟩ := HQ.out w5 hw5; go_simp; (try with_reducible rfl))
            (try simp only [Act.put, List.setIfInBounds_toArray, List.set_cons_zero, List.set_cons_succ, List.getElem_toArray, List.getElem_cons_zero, List.getElem_cons_succ])
            refine wpAnyH_take (i := 13) (v := ?_) rfl (by kernel_rfl) (by kernel_rfl) (by kernel_rfl) (fun _ _ _ h => h) (Or.inl ⟨by rfl, ?_⟩) (by assumption) ?_
            rotate_left
            · (intro w5 hw5; (try dsimp only at hw5); obtain ⟨⟨k0, k1, k2, k3⟩, ⟨k4, k5, k6⟩, k7, k8, k9⟩ := HQ.out w5 hw5; go_simp; (try with_reducible rfl))
            (try simp only [Act.put, List.setIfInBounds_toArray, List.set_cons_zero, List.set_cons_succ, List.getElem_toArray, List.getElem_cons_zero, List.getElem_cons_succ])
            refine wpAnyH_take (i := 14) (v := undef) rfl (by kernel_rfl) (by kernel_rfl) (by kernel_rfl) (fun _ _ _ h => h) (Or.inr ⟨by rfl, rfl⟩) (by assumption) ?_
            (try simp only [Act.put, List.setIfInBounds_toArray, List.set_cons_zero, List.set_cons_succ, List.getElem_toArray, List.getElem_cons_zero, List.getElem_cons_succ])
            refine wpAnyH_take (i := 15) (v := undef) rfl (by kernel_rfl) (by kernel_rfl) (by kernel_rfl) (fun _ _ _ h => h) (Or.inr ⟨by rfl, rfl⟩) (by assumption) ?_
            (try simp only [Act.put, List.setIfInBounds_toArray, List.set_cons_zero, List.set_cons_succ, List.getElem_toArray, List.getElem_cons_zero, List.getElem_cons_succ])
            refine wpAnyH_take (i := 16) (v := undef) rfl (by kernel_rfl) (by kernel_rfl) (by kernel_rfl) (fun _ _ _ h => h) (Or.inr ⟨by rfl, rfl⟩) (by assumption) ?_
            (try simp only [Act.put, List.setIfInBounds_toArray, List.set_cons_zero, List.set_cons_succ, List.getElem_toArray, List.getElem_cons_zero, List.getElem_cons_succ])
            refine wpAnyH_take (i := 17) (v := undef) rfl (by kernel_rfl) (by kernel_rfl) (by kernel_rfl) (fun _ _ _ h => h) (Or.inr ⟨by rfl, rfl⟩) (by assumption) ?_
            (try simp only [Act.put, List.setIfInBounds_toArray, List.set_cons_zero, List.set_cons_succ, List.getElem_toArray, List.getElem_cons_zero, List.getElem_cons_succ])
            refine wpAnyH_take (i := 18) (v := undef) rfl (by kernel_rfl) (by kernel_rfl) (by kernel_rfl) (fun _ _ _ h => h) (Or.inr ⟨by rfl, rfl⟩) (by assumption) ?_
            (try simp only [Act.put, List.setIfInBounds_toArray, List.set_cons_zero, List.set_cons_succ, List.getElem_toArray, List.getElem_cons_zero, List.getElem_cons_succ])
            refine wpAnyH_take (i := 19) (v := ?_) rfl (by kernel_rfl) (by kernel_rfl) (by kernel_rfl) (fun _ _ _ h => h) (Or.inl ⟨by rfl, ?_⟩) (by assumption) ?_
            rotate_left
            · (intro w5 hw5; (try dsimp only at hw5); obtain ⟨⟨k0, k1, k2, k3⟩, ⟨k4, k5, k6⟩, k7, k8, k9⟩ := HQ.out w5 hw5; go_simp; (try with_reducible rfl))
            (try simp only [Act.put, List.setIfInBounds_toArray, List.set_cons_zero, List.set_cons_succ, List.getElem_toArray, List.getElem_cons_zero, List.getElem_cons_succ])
            refine wpAnyH_ready (rs := [20]) (by kernel_rfl) (by simp) ?_
            refine AllReadyH.cons rfl (fun K hK => ?_) AllReadyH.nil
            refine step_store_blk rfl _ _ _ rfl (w.heap.size + 1) rfl _ _ #[Value.int .i64 0, Value.slice q1 s.jobs.length d1, Value.slice q2 s.nodes.length d2, Value.slice q3 s.leases.length d3] (HZ.out _ A0) rfl state_size rfl hone ?_
            refine hK.out _ _ ?_ (fun hHeld => ?_)
            · exact GrB.row G0 _
            clear hK K
            (try simp only [Act.put, List.setIfInBounds_toArray, List.set_cons_zero, List.set_cons_succ, List.getElem_toArray, List.getElem_cons_zero, List.getElem_cons_succ])
            refine wpAnyH_take (i := 21) (v := ?_) rfl (by kernel_rfl) (by kernel_rfl) (by kernel_rfl) (fun _ _ _ h => h) (Or.inl ⟨by rfl, ?_⟩) (by assumption) ?_
            rotate_left
            · (intro w5 hw5; (try dsimp only at hw5); obtain ⟨⟨k0, k1, k2, k3⟩, ⟨k4, k5, k6⟩, k7, k8, k9⟩ := HQ.out w5 hw5; go_simp; (try with_reducible rfl))
            (try simp only [Act.put, List.setIfInBounds_toArray, List.set_cons_zero, List.set_cons_succ, List.getElem_toArray, List.getElem_cons_zero, List.getElem_cons_succ])
            refine wpAnyH_take (i := 22) (v := ?_) rfl (by kernel_rfl) (by kernel_rfl) (by kernel_rfl) (fun _ _ _ h => h) (Or.inl ⟨by rfl, ?_⟩) (by assumption) ?_
            rotate_left
            · (intro w5 hw5; (try dsimp only at hw5); obtain ⟨⟨k0, k1, k2, k3⟩, ⟨k4, k5, k6⟩, k7, k8, k9⟩ := HQ.out w5 hw5; go_simp; (try with_reducible rfl))
            (try simp only [Act.put, List.setIfInBounds_toArray, List.set_cons_zero, List.set_cons_succ, List.getElem_toArray, List.getElem_cons_zero, List.getElem_cons_succ])
            refine wpAnyH_done (by kernel_rfl) ?_ _
            obtain ⟨f1, f2, f3⟩ := HFIN.out _ A0
            have F1 := Lib.hid f1
            have F2 := Lib.hid f2
            clear f1 f2
            go_wp2_with fail
            refine bodyPost_ret (results_cell_tmp2 rfl _ rfl f3 Tryd.underlying26 rfl state_size) rfl ?_
            obtain ⟨l1, l2, l3, l4⟩ := HD.out
            exact ⟨ds, _, 0, q1, q2, q3, d1, d2, d3, by rw [l1, l2, l3, l4]; rfl, F1.out, F2.out, by rw [HR.out, HDB2.out]; rfl⟩
          · cases xj
            · skip
              refine wp_region_held_drew (S := GrB w7 (w.heap.size + 1)) (by kernel_rfl) G0 (fun hHeld => ?_)
              refine wpAnyH_take (i := 0) (v := ?_) rfl (by kernel_rfl) (by kernel_rfl) (by kernel_rfl) (fun _ _ _ h => h) (Or.inl ⟨by rfl, ?_⟩) (by assumption) ?_
              rotate_left
              · (intro w5 hw5; (try dsimp only at hw5); obtain ⟨⟨k0, k1, k2, k3⟩, ⟨k4, k5, k6⟩, k7, k8, k9⟩ := HQ.out w5 hw5; go_simp; (try with_reducible rfl))
              (try simp only [Act.put, List.setIfInBounds_toArray, List.set_cons_zero, List.set_cons_succ, List.getElem_toArray, List.getElem_cons_zero, List.getElem_cons_succ])
              refine wpAnyH_take (i := 1) (v := ?_) rfl (by kernel_rfl) (by kernel_rfl) (by kernel_rfl) (fun _ _ _ h => h) (Or.inl ⟨by rfl, ?_⟩) (by assumption) ?_
              rotate_left
              · (intro w5 hw5; (try dsimp only at hw5); obtain ⟨⟨k0, k1, k2, k3⟩, ⟨k4, k5, k6⟩, k7, k8, k9⟩ := HQ.out w5 hw5; go_simp; (try with_reducible rfl))
              (try simp only [Act.put, List.setIfInBounds_toArray, List.set_cons_zero, List.set_cons_succ, List.getElem_toArray, List.getElem_cons_zero, List.getElem_cons_succ])
              refine wpAnyH_take (i := 2) (v := ?_) rfl (by kernel_rfl) (by kernel_rfl) (by kernel_rfl) (fun _ _ _ h => h) (Or.inl ⟨by rfl, ?_⟩) (by assumption) ?_
              rotate_left
              · (intro w5 hw5; (try dsimp only at hw5); obtain ⟨⟨k0, k1, k2, k3⟩, ⟨k4, k5, k6⟩, k7, k8, k9⟩ := HQ.out w5 hw5; go_simp; (try with_reducible rfl))
              (try simp only [Act.put, List.setIfInBounds_toArray, List.set_cons_zero, List.set_cons_succ, List.getElem_toArray, List.getElem_cons_zero, List.getElem_cons_succ])
              refine wpAnyH_take (i := 3) (v := ?_) rfl (by kernel_rfl) (by kernel_rfl) (by kernel_rfl) (fun _ _ _ h => h) (Or.inl ⟨by rfl, ?_⟩) (by assumption) ?_
              rotate_left
              · (intro w5 hw5; (try dsimp only at hw5); obtain ⟨⟨k0, k1, k2, k3⟩, ⟨k4, k5, k6⟩, k7, k8, k9⟩ := HQ.out w5 hw5; go_simp; (try with_reducible rfl))
              (try simp only [Act.put, List.setIfInBounds_toArray, List.set_cons_zero, List.set_cons_succ, List.getElem_toArray, List.getElem_cons_zero, List.getElem_cons_succ])
              refine wpAnyH_take (i := 4) (v := ?_) rfl (by kernel_rfl) (by kernel_rfl) (by kernel_rfl) (fun _ _ _ h => h) (Or.inl ⟨by rfl, ?_⟩) (by assumption) ?_
              rotate_left
              · (intro w5 hw5; (try dsimp only at hw5); obtain ⟨⟨k0, k1, k2, k3⟩, ⟨k4, k5, k6⟩, k7, k8, k9⟩ := HQ.out w5 hw5; go_simp; (try with_reducible rfl))
              (try simp only [Act.put, List.setIfInBounds_toArray, List.set_cons_zero, List.set_cons_succ, List.getElem_toArray, List.getElem_cons_zero, List.getElem_cons_succ])
              refine wpAnyH_take (i := 5) (v := ?_) rfl (by kernel_rfl) (by kernel_rfl) (by kernel_rfl) (fun _ _ _ h => h) (Or.inl ⟨by rfl, ?_⟩) (by assumption) ?_
              rotate_left
              · (intro w5 hw5; (try dsimp only at hw5); obtain ⟨⟨k0, k1, k2, k3⟩, ⟨k4, k5, k6⟩, k7, k8, k9⟩ := HQ.out w5 hw5; go_simp; (try with_reducible rfl))
              (try simp only [Act.put, List.setIfInBounds_toArray, List.set_cons_zero, List.set_cons_succ, List.getElem_toArray, List.getElem_cons_zero, List.getElem_cons_succ])
              refine wpAnyH_take (i := 6) (v := ?_) rfl (by kernel_rfl) (by kernel_rfl) (by kernel_rfl) (fun _ _ _ h => h) (Or.inl ⟨by rfl, ?_⟩) (by assumption) ?_
              rotate_left
              · (intro w5 hw5; (try dsimp only at hw5); obtain ⟨⟨k0, k1, k2, k3⟩, ⟨k4, k5, k6⟩, k7, k8, k9⟩ := HQ.out w5 hw5; go_simp; (try with_reducible rfl))
              (try simp only [Act.put, List.setIfInBounds_toArray, List.set_cons_zero, List.set_cons_succ, List.getElem_toArray, List.getElem_cons_zero, List.getElem_cons_succ])
              refine wpAnyH_take (i := 7) (v := ?_) rfl (by kernel_rfl) (by kernel_rfl) (by kernel_rfl) (fun _ _ _ h => h) (Or.inl ⟨by rfl, ?_⟩) (by assumption) ?_
              rotate_left
              · (intro w5 hw5; (try dsimp only at hw5); obtain ⟨⟨k0, k1, k2, k3⟩, ⟨k4, k5, k6⟩, k7, k8, k9⟩ := HQ.out w5 hw5; go_simp; (try with_reducible rfl))
              (try simp only [Act.put, List.setIfInBounds_toArray, List.set_cons_zero, List.set_cons_succ, List.getElem_toArray, List.getElem_cons_zero, List.getElem_cons_succ])
              refine wpAnyH_take (i := 8) (v := ?_) rfl (by kernel_rfl) (by kernel_rfl) (by kernel_rfl) (fun _ _ _ h => h) (Or.inl ⟨by rfl, ?_⟩) (by assumption) ?_
              rotate_left
              · (intro w5 hw5; (try dsimp only at hw5); obtain ⟨⟨k0, k1, k2, k3⟩, ⟨k4, k5, k6⟩, k7, k8, k9⟩ := HQ.out w5 hw5; go_simp; (try with_reducible rfl))
              (try simp only [Act.put, List.setIfInBounds_toArray, List.set_cons_zero, List.set_cons_succ, List.getElem_toArray, List.getElem_cons_zero, List.getElem_cons_succ])
              refine wpAnyH_take (i := 9) (v := ?_) rfl (by kernel_rfl) (by kernel_rfl) (by kernel_rfl) (fun _ _ _ h => h) (Or.inl ⟨by rfl, ?_⟩) (by assumption) ?_
              rotate_left
              · (intro w5 hw5; (try dsimp only at hw5); obtain ⟨⟨k0, k1, k2, k3⟩, ⟨k4, k5, k6⟩, k7, k8, k9⟩ := HQ.out w5 hw5; go_simp; (try with_reducible rfl))
              (try simp only [Act.put, List.setIfInBounds_toArray, List.set_cons_zero, List.set_cons_succ, List.getElem_toArray, List.getElem_cons_zero, List.getElem_cons_succ])
              refine wpAnyH_take (i := 10) (v := ?_) rfl (by kernel_rfl) (by kernel_rfl) (by kernel_rfl) (fun _ _ _ h => h) (Or.inl ⟨by rfl, ?_⟩) (by assumption) ?_
              rotate_left
              · (intro w5 hw5; (try dsimp only at hw5); obtain ⟨⟨k0, k1, k2, k3⟩, ⟨k4, k5, k6⟩, k7, k8, k9⟩ := HQ.out w5 hw5; go_simp; (try with_reducible rfl))
              (try simp only [Act.put, List.setIfInBounds_toArray, List.set_cons_zero, List.set_cons_succ, List.getElem_toArray, List.getElem_cons_zero, List.getElem_cons_succ])
              refine wpAnyH_ready (rs := [11]) (by kernel_rfl) (by simp) ?_
              refine AllReadyH.cons rfl (fun K hK => ?_) AllReadyH.nil
              go_simp
              refine (HJ.out _ A0).mono ?_
              rintro e w8 ⟨rfl, hb8⟩
              have A1 := Abv.step A0 hb8
              have G1 := GrB.more G0 hb8
              refine hK.out _ _ ?_ (fun hHeld => ?_)
              · exact G1
              clear hK K
              (try simp only [Act.put, List.setIfInBounds_toArray, List.set_cons_zero, List.set_cons_succ, List.getElem_toArray, List.getElem_cons_zero, List.getElem_cons_succ])
              refine wpAnyH_take (i := 12) (v := ?_) rfl (by kernel_rfl) (by kernel_rfl) (by kernel_rfl) (fun _ _ _ h => h) (Or.inl ⟨by rfl, ?_⟩) (by assumption) ?_
              rotate_left
              · (intro w5 hw5; (try dsimp only at hw5); obtain ⟨⟨k0, k1, k2, k3⟩, ⟨k4, k5, k6⟩, k7, k8, k9⟩ := HQ.out w5 hw5; go_simp; (try with_reducible rfl))
              (try simp only [Act.put, List.setIfInBounds_toArray, List.set_cons_zero, List.set_cons_succ, List.getElem_toArray, List.getElem_cons_zero, List.getElem_cons_succ])
              refine wpAnyH_take (i := 13) (v := ?_) rfl (by kernel_rfl) (by kernel_rfl) (by kernel_rfl) (fun _ _ _ h => h) (Or.inl ⟨by rfl, ?_⟩) (by assumption) ?_
              rotate_left
              · (intro w5 hw5; (try dsimp only at hw5); obtain ⟨⟨k0, k1, k2, k3⟩, ⟨k4, k5, k6⟩, k7, k8, k9⟩ := HQ.out w5 hw5; go_simp; (try with_reducible rfl))
              (try simp only [Act.put, List.setIfInBounds_toArray, List.set_cons_zero, List.set_cons_succ, List.getElem_toArray, List.getElem_cons_zero, List.getElem_cons_succ])
              refine wpAnyH_take (i := 14) (v := undef) rfl (by kernel_rfl) (by kernel_rfl) (by kernel_rfl) (fun _ _ _ h => h) (Or.inr ⟨by rfl, rfl⟩) (by assumption) ?_
              (try simp only [Act.put, List.setIfInBounds_toArray, List.set_cons_zero, List.set_cons_succ, List.getElem_toArray, List.getElem_cons_zero, List.getElem_cons_succ])
              refine wpAnyH_take (i := 15) (v := undef) rfl (by kernel_rfl) (by kernel_rfl) (by kernel_rfl) (fun _ _ _ h => h) (Or.inr ⟨by rfl, rfl⟩) (by assumption) ?_
              (try simp only [Act.put, List.setIfInBounds_toArray, List.set_cons_zero, List.set_cons_succ, List.getElem_toArray, List.getElem_cons_zero, List.getElem_cons_succ])
              refine wpAnyH_take (i := 16) (v := undef) rfl (by kernel_rfl) (by kernel_rfl) (by kernel_rfl) (fun _ _ _ h => h) (Or.inr ⟨by rfl, rfl⟩) (by assumption) ?_
              (try simp only [Act.put, List.setIfInBounds_toArray, List.set_cons_zero, List.set_cons_succ, List.getElem_toArray, List.getElem_cons_zero, List.getElem_cons_succ])
              refine wpAnyH_take (i := 17) (v := undef) rfl (by kernel_rfl) (by kernel_rfl) (by kernel_rfl) (fun _ _ _ h => h) (Or.inr ⟨by rfl, rfl⟩) (by assumption) ?_
              (try simp only [Act.put, List.setIfInBounds_toArray, List.set_cons_zero, List.set_cons_succ, List.getElem_toArray, List.getElem_cons_zero, List.getElem_cons_succ])
              refine wpAnyH_take (i := 18) (v := undef) rfl (by kernel_rfl) (by kernel_rfl) (by kernel_rfl) (fun _ _ _ h => h) (Or.inr ⟨by rfl, rfl⟩) (by assumption) ?_
              (try simp only [Act.put, List.setIfInBounds_toArray, List.set_cons_zero, List.set_cons_succ, List.getElem_toArray, List.getElem_cons_zero, List.getElem_cons_succ])
              refine wpAnyH_take (i := 19) (v := ?_) rfl (by kernel_rfl) (by kernel_rfl) (by kernel_rfl) (fun _ _ _ h => h) (Or.inl ⟨by rfl, ?_⟩) (by assumption) ?_
              rotate_left
              · (intro w5 hw5; (try dsimp only at hw5); obtain ⟨⟨k0, k1, k2, k3⟩, ⟨k4, k5, k6⟩, k7, k8, k9⟩ := HQ.out w5 hw5; go_simp; (try with_reducible rfl))
              (try simp only [Act.put, List.setIfInBounds_toArray, List.set_cons_zero, List.set_cons_succ, List.getElem_toArray, List.getElem_cons_zero, List.getElem_cons_succ])
              refine wpAnyH_ready (rs := [20]) (by kernel_rfl) (by simp) ?_
              refine AllReadyH.cons rfl (fun K hK => ?_) AllReadyH.nil
              refine step_store_blk rfl _ _ _ rfl (w.heap.size + 1) rfl _ _ #[Value.int .i64 0, Value.slice q1 s.jobs.length d1, Value.slice q2 s.nodes.length d2, Value.slice q3 s.leases.length d3] (HZ.out _ A1) rfl state_size rfl hone ?_
              refine hK.out _ _ ?_ (fun hHeld => ?_)
              · exact GrB.row G1 _
              clear hK K
              (try simp only [Act.put, List.setIfInBounds_toArray, List.set_cons_zero, List.set_cons_succ, List.getElem_toArray, List.getElem_cons_zero, List.getElem_cons_succ])
              refine wpAnyH_take (i := 21) (v := ?_) rfl (by kernel_rfl) (by kernel_rfl) (by kernel_rfl) (fun _ _ _ h => h) (Or.inl ⟨by rfl, ?_⟩) (by assumption) ?_
              rotate_left
              · (intro w5 hw5; (try dsimp only at hw5); obtain ⟨⟨k0, k1, k2, k3⟩, ⟨k4, k5, k6⟩, k7, k8, k9⟩ := HQ.out w5 hw5; go_simp; (try with_reducible rfl))
              (try simp only [Act.put, List.setIfInBounds_toArray, List.set_cons_zero, List.set_cons_succ, List.getElem_toArray, List.getElem_cons_zero, List.getElem_cons_succ])
              refine wpAnyH_take (i := 22) (v := ?_) rfl (by kernel_rfl) (by kernel_rfl) (by kernel_rfl) (fun _ _ _ h => h) (Or.inl ⟨by rfl, ?_⟩) (by assumption) ?_
              rotate_left
              · (intro w5 hw5; (try dsimp only at hw5); obtain ⟨⟨k0, k1, k2, k3⟩, ⟨k4, k5, k6⟩, k7, k8, k9⟩ := HQ.out w5 hw5; go_simp; (try with_reducible rfl))
              (try simp only [Act.put, List.setIfInBounds_toArray, List.set_cons_zero, List.set_cons_succ, List.getElem_toArray, List.getElem_cons_zero, List.getElem_cons_succ])
              refine wpAnyH_done (by kernel_rfl) ?_ _
              obtain ⟨f1, f2, f3⟩ := HFIN.out _ A1
              have F1 := Lib.hid f1
              have F2 := Lib.hid f2
              clear f1 f2
              go_wp2_with fail
              refine bodyPost_ret (results_cell_tmp2 rfl _ rfl f3 Tryd.underlying26 rfl state_size) rfl ?_
              obtain ⟨l1, l2, l3, l4⟩ := HD.out
              exact ⟨ds, _, 0, q1, q2, q3, d1, d2, d3, by rw [l1, l2, l3, l4]; rfl, F1.out, F2.out, by rw [HR.out, HDB2.out]; rfl⟩
            · cases xn
              · skip
                refine wp_region_held_drew (S := GrB w7 (w.heap.size + 1)) (by kernel_rfl) G0 (fun hHeld => ?_)
                refine wpAnyH_take (i := 0) (v := ?_) rfl (by kernel_rfl) (by kernel_rfl) (by kernel_rfl) (fun _ _ _ h => h) (Or.inl ⟨by rfl, ?_⟩) (by assumption) ?_
                rotate_left
                · (intro w5 hw5; (try dsimp only at hw5); obtain ⟨⟨k0, k1, k2, k3⟩, ⟨k4, k5, k6⟩, k7, k8, k9⟩ := HQ.out w5 hw5; go_simp; (try with_reducible rfl))
                (try simp only [Act.put, List.setIfInBounds_toArray, List.set_cons_zero, List.set_cons_succ, List.getElem_toArray, List.getElem_cons_zero, List.getElem_cons_succ])
                refine wpAnyH_take (i := 1) (v := ?_) rfl (by kernel_rfl) (by kernel_rfl) (by kernel_rfl) (fun _ _ _ h => h) (Or.inl ⟨by rfl, ?_⟩) (by assumption) ?_
                rotate_left
                · (intro w5 hw5; (try dsimp only at hw5); obtain ⟨⟨k0, k1, k2, k3⟩, ⟨k4, k5, k6⟩, k7, k8, k9⟩ := HQ.out w5 hw5; go_simp; (try with_reducible rfl))
                (try simp only [Act.put, List.setIfInBounds_toArray, List.set_cons_zero, List.set_cons_succ, List.getElem_toArray, List.getElem_cons_zero, List.getElem_cons_succ])
                refine wpAnyH_take (i := 2) (v := ?_) rfl (by kernel_rfl) (by kernel_rfl) (by kernel_rfl) (fun _ _ _ h => h) (Or.inl ⟨by rfl, ?_⟩) (by assumption) ?_
                rotate_left
                · (intro w5 hw5; (try dsimp only at hw5); obtain ⟨⟨k0, k1, k2, k3⟩, ⟨k4, k5, k6⟩, k7, k8, k9⟩ := HQ.out w5 hw5; go_simp; (try with_reducible rfl))
                (try simp only [Act.put, List.setIfInBounds_toArray, List.set_cons_zero, List.set_cons_succ, List.getElem_toArray, List.getElem_cons_zero, List.getElem_cons_succ])
                refine wpAnyH_take (i := 3) (v := ?_) rfl (by kernel_rfl) (by kernel_rfl) (by kernel_rfl) (fun _ _ _ h => h) (Or.inl ⟨by rfl, ?_⟩) (by assumption) ?_
                rotate_left
                · (intro w5 hw5; (try dsimp only at hw5); obtain ⟨⟨k0, k1, k2, k3⟩, ⟨k4, k5, k6⟩, k7, k8, k9⟩ := HQ.out w5 hw5; go_simp; (try with_reducible rfl))
                (try simp only [Act.put, List.setIfInBounds_toArray, List.set_cons_zero, List.set_cons_succ, List.getElem_toArray, List.getElem_cons_zero, List.getElem_cons_succ])
                refine wpAnyH_take (i := 4) (v := ?_) rfl (by kernel_rfl) (by kernel_rfl) (by kernel_rfl) (fun _ _ _ h => h) (Or.inl ⟨by rfl, ?_⟩) (by assumption) ?_
                rotate_left
                · (intro w5 hw5; (try dsimp only at hw5); obtain ⟨⟨k0, k1, k2, k3⟩, ⟨k4, k5, k6⟩, k7, k8, k9⟩ := HQ.out w5 hw5; go_simp; (try with_reducible rfl))
                (try simp only [Act.put, List.setIfInBounds_toArray, List.set_cons_zero, List.set_cons_succ, List.getElem_toArray, List.getElem_cons_zero, List.getElem_cons_succ])
                refine wpAnyH_take (i := 5) (v := ?_) rfl (by kernel_rfl) (by kernel_rfl) (by kernel_rfl) (fun _ _ _ h => h) (Or.inl ⟨by rfl, ?_⟩) (by assumption) ?_
                rotate_left
                · (intro w5 hw5; (try dsimp only at hw5); obtain ⟨⟨k0, k1, k2, k3⟩, ⟨k4, k5, k6⟩, k7, k8, k9⟩ := HQ.out w5 hw5; go_simp; (try with_reducible rfl))
                (try simp only [Act.put, List.setIfInBounds_toArray, List.set_cons_zero, List.set_cons_succ, List.getElem_toArray, List.getElem_cons_zero, List.getElem_cons_succ])
                refine wpAnyH_take (i := 6) (v := ?_) rfl (by kernel_rfl) (by kernel_rfl) (by kernel_rfl) (fun _ _ _ h => h) (Or.inl ⟨by rfl, ?_⟩) (by assumption) ?_
                rotate_left
                · (intro w5 hw5; (try dsimp only at hw5); obtain ⟨⟨k0, k1, k2, k3⟩, ⟨k4, k5, k6⟩, k7, k8, k9⟩ := HQ.out w5 hw5; go_simp; (try with_reducible rfl))
                (try simp only [Act.put, List.setIfInBounds_toArray, List.set_cons_zero, List.set_cons_succ, List.getElem_toArray, List.getElem_cons_zero, List.getElem_cons_succ])
                refine wpAnyH_take (i := 7) (v := ?_) rfl (by kernel_rfl) (by kernel_rfl) (by kernel_rfl) (fun _ _ _ h => h) (Or.inl ⟨by rfl, ?_⟩) (by assumption) ?_
                rotate_left
                · (intro w5 hw5; (try dsimp only at hw5); obtain ⟨⟨k0, k1, k2, k3⟩, ⟨k4, k5, k6⟩, k7, k8, k9⟩ := HQ.out w5 hw5; go_simp; (try with_reducible rfl))
                (try simp only [Act.put, List.setIfInBounds_toArray, List.set_cons_zero, List.set_cons_succ, List.getElem_toArray, List.getElem_cons_zero, List.getElem_cons_succ])
                refine wpAnyH_take (i := 8) (v := ?_) rfl (by kernel_rfl) (by kernel_rfl) (by kernel_rfl) (fun _ _ _ h => h) (Or.inl ⟨by rfl, ?_⟩) (by assumption) ?_
                rotate_left
                · (intro w5 hw5; (try dsimp only at hw5); obtain ⟨⟨k0, k1, k2, k3⟩, ⟨k4, k5, k6⟩, k7, k8, k9⟩ := HQ.out w5 hw5; go_simp; (try with_reducible rfl))
                (try simp only [Act.put, List.setIfInBounds_toArray, List.set_cons_zero, List.set_cons_succ, List.getElem_toArray, List.getElem_cons_zero, List.getElem_cons_succ])
                refine wpAnyH_take (i := 9) (v := ?_) rfl (by kernel_rfl) (by kernel_rfl) (by kernel_rfl) (fun _ _ _ h => h) (Or.inl ⟨by rfl, ?_⟩) (by assumption) ?_
                rotate_left
                · (intro w5 hw5; (try dsimp only at hw5); obtain ⟨⟨k0, k1, k2, k3⟩, ⟨k4, k5, k6⟩, k7, k8, k9⟩ := HQ.out w5 hw5; go_simp; (try with_reducible rfl))
                (try simp only [Act.put, List.setIfInBounds_toArray, List.set_cons_zero, List.set_cons_succ, List.getElem_toArray, List.getElem_cons_zero, List.getElem_cons_succ])
                refine wpAnyH_take (i := 10) (v := ?_) rfl (by kernel_rfl) (by kernel_rfl) (by kernel_rfl) (fun _ _ _ h => h) (Or.inl ⟨by rfl, ?_⟩) (by assumption) ?_
                rotate_left
                · (intro w5 hw5; (try dsimp only at hw5); obtain ⟨⟨k0, k1, k2, k3⟩, ⟨k4, k5, k6⟩, k7, k8, k9⟩ := HQ.out w5 hw5; go_simp; (try with_reducible rfl))
                (try simp only [Act.put, List.setIfInBounds_toArray, List.set_cons_zero, List.set_cons_succ, List.getElem_toArray, List.getElem_cons_zero, List.getElem_cons_succ])
                refine wpAnyH_ready (rs := [11]) (by kernel_rfl) (by simp) ?_
                refine AllReadyH.cons rfl (fun K hK => ?_) AllReadyH.nil
                go_simp
                refine (HJ.out _ A0).mono ?_
                rintro e w8 ⟨rfl, hb8⟩
                have A1 := Abv.step A0 hb8
                have G1 := GrB.more G0 hb8
                refine hK.out _ _ ?_ (fun hHeld => ?_)
                · exact G1
                clear hK K
                (try simp only [Act.put, List.setIfInBounds_toArray, List.set_cons_zero, List.set_cons_succ, List.getElem_toArray, List.getElem_cons_zero, List.getElem_cons_succ])
                refine wpAnyH_take (i := 12) (v := ?_) rfl (by kernel_rfl) (by kernel_rfl) (by kernel_rfl) (fun _ _ _ h => h) (Or.inl ⟨by rfl, ?_⟩) (by assumption) ?_
                rotate_left
                · (intro w5 hw5; (try dsimp only at hw5); obtain ⟨⟨k0, k1, k2, k3⟩, ⟨k4, k5, k6⟩, k7, k8, k9⟩ := HQ.out w5 hw5; go_simp; (try with_reducible rfl))
                (try simp only [Act.put, List.setIfInBounds_toArray, List.set_cons_zero, List.set_cons_succ, List.getElem_toArray, List.getElem_cons_zero, List.getElem_cons_succ])
                refine wpAnyH_take (i := 13) (v := ?_) rfl (by kernel_rfl) (by kernel_rfl) (by kernel_rfl) (fun _ _ _ h => h) (Or.inl ⟨by rfl, ?_⟩) (by assumption) ?_
                rotate_left
                · (intro w5 hw5; (try dsimp only at hw5); obtain ⟨⟨k0, k1, k2, k3⟩, ⟨k4, k5, k6⟩, k7, k8, k9⟩ := HQ.out w5 hw5; go_simp; (try with_reducible rfl))
                (try simp only [Act.put, List.setIfInBounds_toArray, List.set_cons_zero, List.set_cons_succ, List.getElem_toArray, List.getElem_cons_zero, List.getElem_cons_succ])
                refine wpAnyH_take (i := 14) (v := ?_) rfl (by kernel_rfl) (by kernel_rfl) (by kernel_rfl) (fun _ _ _ h => h) (Or.inl ⟨by rfl, ?_⟩) (by assumption) ?_
                rotate_left
                · (intro w5 hw5; (try dsimp only at hw5); obtain ⟨⟨k0, k1, k2, k3⟩, ⟨k4, k5, k6⟩, k7, k8, k9⟩ := HQ.out w5 hw5; go_simp; (try with_reducible rfl))
                (try simp only [Act.put, List.setIfInBounds_toArray, List.set_cons_zero, List.set_cons_succ, List.getElem_toArray, List.getElem_cons_zero, List.getElem_cons_succ])
                refine wpAnyH_take (i := 15) (v := ?_) rfl (by kernel_rfl) (by kernel_rfl) (by kernel_rfl) (fun _ _ _ h => h) (Or.inl ⟨by rfl, ?_⟩) (by assumption) ?_
                rotate_left
                · (intro w5 hw5; (try dsimp only at hw5); obtain ⟨⟨k0, k1, k2, k3⟩, ⟨k4, k5, k6⟩, k7, k8, k9⟩ := HQ.out w5 hw5; go_simp; (try with_reducible rfl))
                (try simp only [Act.put, List.setIfInBounds_toArray, List.set_cons_zero, List.set_cons_succ, List.getElem_toArray, List.getElem_cons_zero, List.getElem_cons_succ])
                refine wpAnyH_take (i := 16) (v := ?_) rfl (by kernel_rfl) (by kernel_rfl) (by kernel_rfl) (fun _ _ _ h => h) (Or.inl ⟨by rfl, ?_⟩) (by assumption) ?_
                rotate_left
                · (intro w5 hw5; (try dsimp only at hw5); obtain ⟨⟨k0, k1, k2, k3⟩, ⟨k4, k5, k6⟩, k7, k8, k9⟩ := HQ.out w5 hw5; go_simp; (try with_reducible rfl))
                (try simp only [Act.put, List.setIfInBounds_toArray, List.set_cons_zero, List.set_cons_succ, List.getElem_toArray, List.getElem_cons_zero, List.getElem_cons_succ])
                refine wpAnyH_take (i := 17) (v := ?_) rfl (by kernel_rfl) (by kernel_rfl) (by kernel_rfl) (fun _ _ _ h => h) (Or.inl ⟨by rfl, ?_⟩) (by assumption) ?_
                rotate_left
                · (intro w5 hw5; (try dsimp only at hw5); obtain ⟨⟨k0, k1, k2, k3⟩, ⟨k4, k5, k6⟩, k7, k8, k9⟩ := HQ.out w5 hw5; go_simp; (try with_reducible rfl))
                (try simp only [Act.put, List.setIfInBounds_toArray, List.set_cons_zero, List.set_cons_succ, List.getElem_toArray, List.getElem_cons_zero, List.getElem_cons_succ])
                refine wpAnyH_ready (rs := [18]) (by kernel_rfl) (by simp) ?_
                refine AllReadyH.cons rfl (fun K hK => ?_) AllReadyH.nil
                go_simp
                refine (HN.out _ A1).mono ?_
                rintro e w9 ⟨rfl, hb9⟩
                have A2 := Abv.step A1 hb9
                have G2 := GrB.more G1 hb9
                refine hK.out _ _ ?_ (fun hHeld => ?_)
                · exact G2
                clear hK K
                (try simp only [Act.put, List.setIfInBounds_toArray, List.set_cons_zero, List.set_cons_succ, List.getElem_toArray, List.getElem_cons_zero, List.getElem_cons_succ])
                refine wpAnyH_take (i := 19) (v := ?_) rfl (by kernel_rfl) (by kernel_rfl) (by kernel_rfl) (fun _ _ _ h => h) (Or.inl ⟨by rfl, ?_⟩) (by assumption) ?_
                rotate_left
                · (intro w5 hw5; (try dsimp only at hw5); obtain ⟨⟨k0, k1, k2, k3⟩, ⟨k4, k5, k6⟩, k7, k8, k9⟩ := HQ.out w5 hw5; go_simp; (try with_reducible rfl))
                (try simp only [Act.put, List.setIfInBounds_toArray, List.set_cons_zero, List.set_cons_succ, List.getElem_toArray, List.getElem_cons_zero, List.getElem_cons_succ])
                refine wpAnyH_ready (rs := [20]) (by kernel_rfl) (by simp) ?_
                refine AllReadyH.cons rfl (fun K hK => ?_) AllReadyH.nil
                refine step_store_blk rfl _ _ _ rfl (w.heap.size + 1) rfl _ _ #[Value.int .i64 0, Value.slice q1 s.jobs.length d1, Value.slice q2 s.nodes.length d2, Value.slice q3 s.leases.length d3] (HZ.out _ A2) rfl state_size rfl hone ?_
                refine hK.out _ _ ?_ (fun hHeld => ?_)
                · exact GrB.row G2 _
                clear hK K
                (try simp only [Act.put, List.setIfInBounds_toArray, List.set_cons_zero, List.set_cons_succ, List.getElem_toArray, List.getElem_cons_zero, List.getElem_cons_succ])
                refine wpAnyH_take (i := 21) (v := ?_) rfl (by kernel_rfl) (by kernel_rfl) (by kernel_rfl) (fun _ _ _ h => h) (Or.inl ⟨by rfl, ?_⟩) (by assumption) ?_
                rotate_left
                · (intro w5 hw5; (try dsimp only at hw5); obtain ⟨⟨k0, k1, k2, k3⟩, ⟨k4, k5, k6⟩, k7, k8, k9⟩ := HQ.out w5 hw5; go_simp; (try with_reducible rfl))
                (try simp only [Act.put, List.setIfInBounds_toArray, List.set_cons_zero, List.set_cons_succ, List.getElem_toArray, List.getElem_cons_zero, List.getElem_cons_succ])
                refine wpAnyH_take (i := 22) (v := ?_) rfl (by kernel_rfl) (by kernel_rfl) (by kernel_rfl) (fun _ _ _ h => h) (Or.inl ⟨by rfl, ?_⟩) (by assumption) ?_
                rotate_left
                · (intro w5 hw5; (try dsimp only at hw5); obtain ⟨⟨k0, k1, k2, k3⟩, ⟨k4, k5, k6⟩, k7, k8, k9⟩ := HQ.out w5 hw5; go_simp; (try with_reducible rfl))
                (try simp only [Act.put, List.setIfInBounds_toArray, List.set_cons_zero, List.set_cons_succ, List.getElem_toArray, List.getElem_cons_zero, List.getElem_cons_succ])
                refine wpAnyH_done (by kernel_rfl) ?_ _
                obtain ⟨f1, f2, f3⟩ := HFIN.out _ A2
                have F1 := Lib.hid f1
                have F2 := Lib.hid f2
                clear f1 f2
                go_wp2_with fail
                refine bodyPost_ret (results_cell_tmp2 rfl _ rfl f3 Tryd.underlying26 rfl state_size) rfl ?_
                obtain ⟨l1, l2, l3, l4⟩ := HD.out
                exact ⟨ds, _, 0, q1, q2, q3, d1, d2, d3, by rw [l1, l2, l3, l4]; rfl, F1.out, F2.out, by rw [HR.out, HDB2.out]; rfl⟩
              · skip
                refine wp_region_held_drew (S := GrB w7 (w.heap.size + 1)) (by kernel_rfl) G0 (fun hHeld => ?_)
                refine wpAnyH_take (i := 0) (v := ?_) rfl (by kernel_rfl) (by kernel_rfl) (by kernel_rfl) (fun _ _ _ h => h) (Or.inl ⟨by rfl, ?_⟩) (by assumption) ?_
                rotate_left
                · (intro w5 hw5; (try dsimp only at hw5); obtain ⟨⟨k0, k1, k2, k3⟩, ⟨k4, k5, k6⟩, k7, k8, k9⟩ := HQ.out w5 hw5; go_simp; (try with_reducible rfl))
                (try simp only [Act.put, List.setIfInBounds_toArray, List.set_cons_zero, List.set_cons_succ, List.getElem_toArray, List.getElem_cons_zero, List.getElem_cons_succ])
                refine wpAnyH_take (i := 1) (v := ?_) rfl (by kernel_rfl) (by kernel_rfl) (by kernel_rfl) (fun _ _ _ h => h) (Or.inl ⟨by rfl, ?_⟩) (by assumption) ?_
                rotate_left
                · (intro w5 hw5; (try dsimp only at hw5); obtain ⟨⟨k0, k1, k2, k3⟩, ⟨k4, k5, k6⟩, k7, k8, k9⟩ := HQ.out w5 hw5; go_simp; (try with_reducible rfl))
                (try simp only [Act.put, List.setIfInBounds_toArray, List.set_cons_zero, List.set_cons_succ, List.getElem_toArray, List.getElem_cons_zero, List.getElem_cons_succ])
                refine wpAnyH_take (i := 2) (v := ?_) rfl (by kernel_rfl) (by kernel_rfl) (by kernel_rfl) (fun _ _ _ h => h) (Or.inl ⟨by rfl, ?_⟩) (by assumption) ?_
                rotate_left
                · (intro w5 hw5; (try dsimp only at hw5); obtain ⟨⟨k0, k1, k2, k3⟩, ⟨k4, k5, k6⟩, k7, k8, k9⟩ := HQ.out w5 hw5; go_simp; (try with_reducible rfl))
                (try simp only [Act.put, List.setIfInBounds_toArray, List.set_cons_zero, List.set_cons_succ, List.getElem_toArray, List.getElem_cons_zero, List.getElem_cons_succ])
                refine wpAnyH_take (i := 3) (v := ?_) rfl (by kernel_rfl) (by kernel_rfl) (by kernel_rfl) (fun _ _ _ h => h) (Or.inl ⟨by rfl, ?_⟩) (by assumption) ?_
                rotate_left
                · (intro w5 hw5; (try dsimp only at hw5); obtain ⟨⟨k0, k1, k2, k3⟩, ⟨k4, k5, k6⟩, k7, k8, k9⟩ := HQ.out w5 hw5; go_simp; (try with_reducible rfl))
                (try simp only [Act.put, List.setIfInBounds_toArray, List.set_cons_zero, List.set_cons_succ, List.getElem_toArray, List.getElem_cons_zero, List.getElem_cons_succ])
                refine wpAnyH_take (i := 4) (v := ?_) rfl (by kernel_rfl) (by kernel_rfl) (by kernel_rfl) (fun _ _ _ h => h) (Or.inl ⟨by rfl, ?_⟩) (by assumption) ?_
                rotate_left
                · (intro w5 hw5; (try dsimp only at hw5); obtain ⟨⟨k0, k1, k2, k3⟩, ⟨k4, k5, k6⟩, k7, k8, k9⟩ := HQ.out w5 hw5; go_simp; (try with_reducible rfl))
                (try simp only [Act.put, List.setIfInBounds_toArray, List.set_cons_zero, List.set_cons_succ, List.getElem_toArray, List.getElem_cons_zero, List.getElem_cons_succ])
                refine wpAnyH_take (i := 5) (v := ?_) rfl (by kernel_rfl) (by kernel_rfl) (by kernel_rfl) (fun _ _ _ h => h) (Or.inl ⟨by rfl, ?_⟩) (by assumption) ?_
                rotate_left
                · (intro w5 hw5; (try dsimp only at hw5); obtain ⟨⟨k0, k1, k2, k3⟩, ⟨k4, k5, k6⟩, k7, k8, k9⟩ := HQ.out w5 hw5; go_simp; (try with_reducible rfl))
                (try simp only [Act.put, List.setIfInBounds_toArray, List.set_cons_zero, List.set_cons_succ, List.getElem_toArray, List.getElem_cons_zero, List.getElem_cons_succ])
                refine wpAnyH_take (i := 6) (v := ?_) rfl (by kernel_rfl) (by kernel_rfl) (by kernel_rfl) (fun _ _ _ h => h) (Or.inl ⟨by rfl, ?_⟩) (by assumption) ?_
                rotate_left
                · (intro w5 hw5; (try dsimp only at hw5); obtain ⟨⟨k0, k1, k2, k3⟩, ⟨k4, k5, k6⟩, k7, k8, k9⟩ := HQ.out w5 hw5; go_simp; (try with_reducible rfl))
                (try simp only [Act.put, List.setIfInBounds_toArray, List.set_cons_zero, List.set_cons_succ, List.getElem_toArray, List.getElem_cons_zero, List.getElem_cons_succ])
                refine wpAnyH_take (i := 7) (v := ?_) rfl (by kernel_rfl) (by kernel_rfl) (by kernel_rfl) (fun _ _ _ h => h) (Or.inl ⟨by rfl, ?_⟩) (by assumption) ?_
                rotate_left
                · (intro w5 hw5; (try dsimp only at hw5); obtain ⟨⟨k0, k1, k2, k3⟩, ⟨k4, k5, k6⟩, k7, k8, k9⟩ := HQ.out w5 hw5; go_simp; (try with_reducible rfl))
                (try simp only [Act.put, List.setIfInBounds_toArray, List.set_cons_zero, List.set_cons_succ, List.getElem_toArray, List.getElem_cons_zero, List.getElem_cons_succ])
                refine wpAnyH_take (i := 8) (v := ?_) rfl (by kernel_rfl) (by kernel_rfl) (by kernel_rfl) (fun _ _ _ h => h) (Or.inl ⟨by rfl, ?_⟩) (by assumption) ?_
                rotate_left
                · (intro w5 hw5; (try dsimp only at hw5); obtain ⟨⟨k0, k1, k2, k3⟩, ⟨k4, k5, k6⟩, k7, k8, k9⟩ := HQ.out w5 hw5; go_simp; (try with_reducible rfl))
                (try simp only [Act.put, List.setIfInBounds_toArray, List.set_cons_zero, List.set_cons_succ, List.getElem_toArray, List.getElem_cons_zero, List.getElem_cons_succ])
                refine wpAnyH_take (i := 9) (v := ?_) rfl (by kernel_rfl) (by kernel_rfl) (by kernel_rfl) (fun _ _ _ h => h) (Or.inl ⟨by rfl, ?_⟩) (by assumption) ?_
                rotate_left
                · (intro w5 hw5; (try dsimp only at hw5); obtain ⟨⟨k0, k1, k2, k3⟩, ⟨k4, k5, k6⟩, k7, k8, k9⟩ := HQ.out w5 hw5; go_simp; (try with_reducible rfl))
                (try simp only [Act.put, List.setIfInBounds_toArray, List.set_cons_zero, List.set_cons_succ, List.getElem_toArray, List.getElem_cons_zero, List.getElem_cons_succ])
                refine wpAnyH_take (i := 10) (v := ?_) rfl (by kernel_rfl) (by kernel_rfl) (by kernel_rfl) (fun _ _ _ h => h) (Or.inl ⟨by rfl, ?_⟩) (by assumption) ?_
                rotate_left
                · (intro w5 hw5; (try dsimp only at hw5); obtain ⟨⟨k0, k1, k2, k3⟩, ⟨k4, k5, k6⟩, k7, k8, k9⟩ := HQ.out w5 hw5; go_simp; (try with_reducible rfl))
                (try simp only [Act.put, List.setIfInBounds_toArray, List.set_cons_zero, List.set_cons_succ, List.getElem_toArray, List.getElem_cons_zero, List.getElem_cons_succ])
                refine wpAnyH_ready (rs := [11]) (by kernel_rfl) (by simp) ?_
                refine AllReadyH.cons rfl (fun K hK => ?_) AllReadyH.nil
                go_simp
                refine (HJ.out _ A0).mono ?_
                rintro e w8 ⟨rfl, hb8⟩
                have A1 := Abv.step A0 hb8
                have G1 := GrB.more G0 hb8
                refine hK.out _ _ ?_ (fun hHeld => ?_)
                · exact G1
                clear hK K
                (try simp only [Act.put, List.setIfInBounds_toArray, List.set_cons_zero, List.set_cons_succ, List.getElem_toArray, List.getElem_cons_zero, List.getElem_cons_succ])
                refine wpAnyH_take (i := 12) (v := ?_) rfl (by kernel_rfl) (by kernel_rfl) (by kernel_rfl) (fun _ _ _ h => h) (Or.inl ⟨by rfl, ?_⟩) (by assumption) ?_
                rotate_left
                · (intro w5 hw5; (try dsimp only at hw5); obtain ⟨⟨k0, k1, k2, k3⟩, ⟨k4, k5, k6⟩, k7, k8, k9⟩ := HQ.out w5 hw5; go_simp; (try with_reducible rfl))
                (try simp only [Act.put, List.setIfInBounds_toArray, List.set_cons_zero, List.set_cons_succ, List.getElem_toArray, List.getElem_cons_zero, List.getElem_cons_succ])
                refine wpAnyH_take (i := 13) (v := ?_) rfl (by kernel_rfl) (by kernel_rfl) (by kernel_rfl) (fun _ _ _ h => h) (Or.inl ⟨by rfl, ?_⟩) (by assumption) ?_
                rotate_left
                · (intro w5 hw5; (try dsimp only at hw5); obtain ⟨⟨k0, k1, k2, k3⟩, ⟨k4, k5, k6⟩, k7, k8, k9⟩ := HQ.out w5 hw5; go_simp; (try with_reducible rfl))
                (try simp only [Act.put, List.setIfInBounds_toArray, List.set_cons_zero, List.set_cons_succ, List.getElem_toArray, List.getElem_cons_zero, List.getElem_cons_succ])
                refine wpAnyH_take (i := 14) (v := ?_) rfl (by kernel_rfl) (by kernel_rfl) (by kernel_rfl) (fun _ _ _ h => h) (Or.inl ⟨by rfl, ?_⟩) (by assumption) ?_
                rotate_left
                · (intro w5 hw5; (try dsimp only at hw5); obtain ⟨⟨k0, k1, k2, k3⟩, ⟨k4, k5, k6⟩, k7, k8, k9⟩ := HQ.out w5 hw5; go_simp; (try with_reducible rfl))
                (try simp only [Act.put, List.setIfInBounds_toArray, List.set_cons_zero, List.set_cons_succ, List.getElem_toArray, List.getElem_cons_zero, List.getElem_cons_succ])
                refine wpAnyH_take (i := 15) (v := ?_) rfl (by kernel_rfl) (by kernel_rfl) (by kernel_rfl) (fun _ _ _ h => h) (Or.inl ⟨by rfl, ?_⟩) (by assumption) ?_
                rotate_left
                · (intro w5 hw5; (try dsimp only at hw5); obtain ⟨⟨k0, k1, k2, k3⟩, ⟨k4, k5, k6⟩, k7, k8, k9⟩ := HQ.out w5 hw5; go_simp; (try with_reducible rfl))
                (try simp only [Act.put, List.setIfInBounds_toArray, List.set_cons_zero, List.set_cons_succ, List.getElem_toArray, List.getElem_cons_zero, List.getElem_cons_succ])
                refine wpAnyH_take (i := 16) (v := ?_) rfl (by kernel_rfl) (by kernel_rfl) (by kernel_rfl) (fun _ _ _ h => h) (Or.inl ⟨by rfl, ?_⟩) (by assumption) ?_
                rotate_left
                · (intro w5 hw5; (try dsimp only at hw5); obtain ⟨⟨k0, k1, k2, k3⟩, ⟨k4, k5, k6⟩, k7, k8, k9⟩ := HQ.out w5 hw5; go_simp; (try with_reducible rfl))
                (try simp only [Act.put, List.setIfInBounds_toArray, List.set_cons_zero, List.set_cons_succ, List.getElem_toArray, List.getElem_cons_zero, List.getElem_cons_succ])
                refine wpAnyH_take (i := 17) (v := ?_) rfl (by kernel_rfl) (by kernel_rfl) (by kernel_rfl) (fun _ _ _ h => h) (Or.inl ⟨by rfl, ?_⟩) (by assumption) ?_
                rotate_left
                · (intro w5 hw5; (try dsimp only at hw5); obtain ⟨⟨k0, k1, k2, k3⟩, ⟨k4, k5, k6⟩, k7, k8, k9⟩ := HQ.out w5 hw5; go_simp; (try with_reducible rfl))
                (try simp only [Act.put, List.setIfInBounds_toArray, List.set_cons_zero, List.set_cons_succ, List.getElem_toArray, List.getElem_cons_zero, List.getElem_cons_succ])
                refine wpAnyH_ready (rs := [18]) (by kernel_rfl) (by simp) ?_
                refine AllReadyH.cons rfl (fun K hK => ?_) AllReadyH.nil
                go_simp
                refine (HN.out _ A1).mono ?_
                rintro e w9 ⟨rfl, hb9⟩
                have A2 := Abv.step A1 hb9
                have G2 := GrB.more G1 hb9
                refine hK.out _ _ ?_ (fun hHeld => ?_)
                · exact G2
                clear hK K
                (try simp only [Act.put, List.setIfInBounds_toArray, List.set_cons_zero, List.set_cons_succ, List.getElem_toArray, List.getElem_cons_zero, List.getElem_cons_succ])
                refine wpAnyH_take (i := 19) (v := ?_) rfl (by kernel_rfl) (by kernel_rfl) (by kernel_rfl) (fun _ _ _ h => h) (Or.inl ⟨by rfl, ?_⟩) (by assumption) ?_
                rotate_left
                · (intro w5 hw5; (try dsimp only at hw5); obtain ⟨⟨k0, k1, k2, k3⟩, ⟨k4, k5, k6⟩, k7, k8, k9⟩ := HQ.out w5 hw5; go_simp; (try with_reducible rfl))
                (try simp only [Act.put, List.setIfInBounds_toArray, List.set_cons_zero, List.set_cons_succ, List.getElem_toArray, List.getElem_cons_zero, List.getElem_cons_succ])
                refine wpAnyH_ready (rs := [20]) (by kernel_rfl) (by simp) ?_
                refine AllReadyH.cons rfl (fun K hK => ?_) AllReadyH.nil
                refine step_store_blk rfl _ _ _ rfl (w.heap.size + 1) rfl _ _ #[Value.int .i64 0, Value.slice q1 s.jobs.length d1, Value.slice q2 s.nodes.length d2, Value.slice q3 s.leases.length d3] (HZ.out _ A2) rfl state_size rfl hone ?_
                refine hK.out _ _ ?_ (fun hHeld => ?_)
                · exact GrB.row G2 _
                clear hK K
                (try simp only [Act.put, List.setIfInBounds_toArray, List.set_cons_zero, List.set_cons_succ, List.getElem_toArray, List.getElem_cons_zero, List.getElem_cons_succ])
                refine wpAnyH_take (i := 21) (v := ?_) rfl (by kernel_rfl) (by kernel_rfl) (by kernel_rfl) (fun _ _ _ h => h) (Or.inl ⟨by rfl, ?_⟩) (by assumption) ?_
                rotate_left
                · (intro w5 hw5; (try dsimp only at hw5); obtain ⟨⟨k0, k1, k2, k3⟩, ⟨k4, k5, k6⟩, k7, k8, k9⟩ := HQ.out w5 hw5; go_simp; (try with_reducible rfl))
                (try simp only [Act.put, List.setIfInBounds_toArray, List.set_cons_zero, List.set_cons_succ, List.getElem_toArray, List.getElem_cons_zero, List.getElem_cons_succ])
                refine wpAnyH_take (i := 22) (v := ?_) rfl (by kernel_rfl) (by kernel_rfl) (by kernel_rfl) (fun _ _ _ h => h) (Or.inl ⟨by rfl, ?_⟩) (by assumption) ?_
                rotate_left
                · (intro w5 hw5; (try dsimp only at hw5); obtain ⟨⟨k0, k1, k2, k3⟩, ⟨k4, k5, k6⟩, k7, k8, k9⟩ := HQ.out w5 hw5; go_simp; (try with_reducible rfl))
                (try simp only [Act.put, List.setIfInBounds_toArray, List.set_cons_zero, List.set_cons_succ, List.getElem_toArray, List.getElem_cons_zero, List.getElem_cons_succ])
                refine wpAnyH_done (by kernel_rfl) ?_ _
                obtain ⟨f1, f2, f3⟩ := HFIN.out _ A2
                have F1 := Lib.hid f1
                have F2 := Lib.hid f2
                clear f1 f2
                go_wp2_with fail
                refine bodyPost_ret (results_cell_tmp2 rfl _ rfl f3 Tryd.underlying26 rfl state_size) rfl ?_
                obtain ⟨l1, l2, l3, l4⟩ := HD.out
                exact ⟨ds, _, 0, q1, q2, q3, d1, d2, d3, by rw [l1, l2, l3, l4]; rfl, F1.out, F2.out, by rw [HR.out, HDB2.out]; rfl⟩
end Go.Proofs.YtejdhcipmkaboaaDoor

/-
  The contract of up.Down, to version 2.
-/
set_option linter.unusedVariables false
set_option linter.unusedSimpArgs false
namespace Go.Proofs.YtejdhcipmkaboaaDoor
open Go.RowKit
set_option maxHeartbeats 8000000 in
set_option maxRecDepth 100000 in
theorem down_2 (s : St) (p1 p2 p3 : Option Addr) (c1 c2 c3 : Nat) (w : World) (hm : StM w w.heap.size p1 p2 p3 s) (hz : StSz s) (hT : Tabs w) (hc : checkE s = 0) :
    Calls Tryd.prog 25 #[.agg #[.int .i64 s.rev, .slice p1 s.jobs.length c1, .slice p2 s.nodes.length c2, .slice p3 s.leases.length c3], .int .i64 2] w fun e w' => DownPost w (downR s 2) e w' := by
  have hzs := zero_state_lit
  have hF := (fine_iff s).1 hc
  have lj : s.jobs.length ≤ 40 := hF.nj
  have ln : s.nodes.length ≤ 20 := hF.nn
  have ll : s.leases.length ≤ 40 := hF.nl
  have hR : downR s 2 = (downS 2 s, downB s 2, 0) := by
    unfold downR
    rw [if_neg (by rw [hc]; simp), if_neg (by decide)]
  have bs := (Blk.new w 26 #[Value.int .i64 s.rev, Value.slice p1 s.jobs.length c1, Value.slice p2 s.nodes.length c2, Value.slice p3 s.leases.length c3]).alloc (.cells #[Value.int .i64 0, Value.slice none 0 0, Value.slice none 0 0, Value.slice none 0 0] 26)
  have bz := blk_new_of (show (w.alloc (.cells #[Value.int .i64 s.rev, Value.slice p1 s.jobs.length c1, Value.slice p2 s.nodes.length c2, Value.slice p3 s.leases.length c3] 26)).heap.size = w.heap.size + 1 by simp) 26 #[Value.int .i64 0, Value.slice none 0 0, Value.slice none 0 0, Value.slice none 0 0]
  have hB0 : Below w.heap.size w ((w.alloc (.cells #[Value.int .i64 s.rev, Value.slice p1 s.jobs.length c1, Value.slice p2 s.nodes.length c2, Value.slice p3 s.leases.length c3] 26)).alloc (.cells #[Value.int .i64 0, Value.slice none 0 0, Value.slice none 0 0, Value.slice none 0 0] 26)) := ((Below.refl _ _).alloc (Nat.le_refl _) _).alloc (by simp) _
  have hC := stCheck_any s p1 p2 p3 c1 c2 c3 _ ((hm.below hB0).more hB0.size) hz (hT.below hB0)
  rw [hc] at hC
  have hO := fun (W : World) (hW : Below w.heap.size w W) => upOwn_any s p1 p2 p3 c1 c2 c3 W ((hm.below hW).more hW.size) (by omega) (by omega) (by omega)
  have HC := Lib.hid hC
  have HO := Lib.hid hO
  have HR := Lib.hid hR
  have HM := Lib.hid hm
  clear hm hz hT hC hR hO hc hF
  go_enter Tryd.func25, Tryd.ntmps25
  go_upto_region 1 with (fail)
  generalize (w.alloc (.cells #[Value.int .i64 s.rev, Value.slice p1 s.jobs.length c1, Value.slice p2 s.nodes.length c2, Value.slice p3 s.leases.length c3] 26)).alloc _ = w0 at *
  go_wp2_with (refine wpList_load_blk rfl _ _ rfl w.heap.size rfl _ #[Value.int .i64 s.rev, Value.slice p1 s.jobs.length c1, Value.slice p2 s.nodes.length c2, Value.slice p3 s.leases.length c3] bs _ Tryd.underlying26 rfl state_size ?_)
  refine HC.out.mono ?_
  rintro e w1 ⟨rfl, hb1⟩
  have bs1 := bs.below hb1 bs.lt
  have bz1 := bz.below hb1 bz.lt
  have hB1 := hB0.trans (hb1.mono hB0.size)
  clear bs bz hb1 HC
  go_wp2_with (refine wpList_load_blk rfl _ _ rfl w.heap.size rfl _ #[Value.int .i64 s.rev, Value.slice p1 s.jobs.length c1, Value.slice p2 s.nodes.length c2, Value.slice p3 s.leases.length c3] bs1 _ Tryd.underlying26 rfl state_size ?_)
  refine (HO.out w1 hB1).mono ?_
  rintro e w2 ⟨q1, q2, q3, d1, d2, d3, rfl, hO2, hb2⟩
  have bs2 := bs1.below hb2 bs1.lt
  have bz2 := bz1.below hb2 bz1.lt
  have hB2 := hB1.trans (hb2.mono hB1.size)
  have hO2 := hO2.less hB1.size
  have hgs : w.heap.size < w2.heap.size := bs2.lt
  have hgz : w.heap.size + 1 < w2.heap.size := bz2.lt
  clear bs1 bz1 hb2 HO hB1 hB0
  go_upto_region 7 with (refine wpList_store_new rfl _ _ _ rfl rfl 26 _ #[Value.int .i64 s.rev, Value.slice q1 s.jobs.length d1, Value.slice q2 s.nodes.length d2, Value.slice q3 s.leases.length d3] rfl state_size rfl (one_st4 _ _ _ _ _ _ _ _ _ _) ?_)
  have bd3 := Blk.new w2 26 #[Value.int .i64 s.rev, Value.slice q1 s.jobs.length d1, Value.slice q2 s.nodes.length d2, Value.slice q3 s.leases.length d3]
  have bs3 := bs2.alloc (.cells #[Value.int .i64 s.rev, Value.slice q1 s.jobs.length d1, Value.slice q2 s.nodes.length d2, Value.slice q3 s.leases.length d3] 26)
  have bz3 := bz2.alloc (.cells #[Value.int .i64 s.rev, Value.slice q1 s.jobs.length d1, Value.slice q2 s.nodes.length d2, Value.slice q3 s.leases.length d3] 26)
  have hO3 := hO2.below ((Below.refl w2.heap.size w2).alloc (Nat.le_refl _) (.cells #[Value.int .i64 s.rev, Value.slice q1 s.jobs.length d1, Value.slice q2 s.nodes.length d2, Value.slice q3 s.leases.length d3] 26))
  have hB3 := hB2.alloc hB2.size (.cells #[Value.int .i64 s.rev, Value.slice q1 s.jobs.length d1, Value.slice q2 s.nodes.length d2, Value.slice q3 s.leases.length d3] 26)
  clear bs2 bz2 hO2 hB2
  generalize hgd : w2.heap.size = gd at *
  generalize w2.alloc _ = w3 at *
  clear hgd
  have e0 : w3.cell? ⟨gd, 0, none⟩ = some (.int .i64 s.rev) := bd3.cell 0
  have f0 := bd3.frozen 0
  have bd4 : Blk (w3.setCell ⟨gd, 0, none⟩ (.int .i64 0)) gd 26 #[Value.int .i64 0, Value.slice q1 s.jobs.length d1, Value.slice q2 s.nodes.length d2, Value.slice q3 s.leases.length d3] := bd3.set_ 0 _
  have bs4 := bs3.far (p := ⟨gd, 0, none⟩) (show w.heap.size ≠ gd by omega) (.int .i64 0)
  have bz4 := bz3.far (p := ⟨gd, 0, none⟩) (show w.heap.size + 1 ≠ gd by omega) (.int .i64 0)
  have hO4 := hO3.other (grow_cell w3 gd 0 (.int .i64 0)) bd3 (by decide) (by decide) (by decide)
  have hB4 := hB3.setCell (p := ⟨gd, 0, none⟩) (show w.heap.size ≤ gd by omega) (.int .i64 0)
  clear bs3 bz3 bd3 hO3 hB3
  go_upto_region 9 with (fail)
  clear e0 f0
  generalize w3.setCell ⟨gd, 0, none⟩ (.int .i64 0) = w4 at *
  have e1 : w4.cell? ⟨gd, 1, none⟩ = some (.slice q1 s.jobs.length d1) := bd4.cell 1
  go_wp2_with fail
  clear e1
  go_loopw [33] (fun i wr => ∃ k : Nat, k ≤ s.jobs.length ∧ i = .int .i64 k ∧ StOwn wr w.heap.size q1 q2 q3 d1 d2 d3 ⟨0, mixL (downJ 2) s.jobs k, s.nodes, s.leases⟩ ∧ Below w.heap.size w wr ∧ Blk wr gd 26 #[Value.int .i64 0, Value.slice q1 s.jobs.length d1, Value.slice q2 s.nodes.length d2, Value.slice q3 s.leases.length d3] ∧ Blk wr w.heap.size 26 #[Value.int .i64 s.rev, Value.slice p1 s.jobs.length c1, Value.slice p2 s.nodes.length c2, Value.slice p3 s.leases.length c3] ∧ Blk wr (w.heap.size + 1) 26 #[Value.int .i64 0, Value.slice none 0 0, Value.slice none 0 0, Value.slice none 0 0]) (fun i _ => s.jobs.length - (intOf i).toNat)
  case atStart => exact ⟨0, Nat.zero_le _, rfl, by rw [mixL_zero]; exact ⟨hO4.j, hO4.n, hO4.l⟩, hB4, bd4, bs4, bz4⟩
  case round =>
    clear hO4 hB4 bd4 bs4 bz4
    obtain ⟨k, hk, rfl, hOr, hBr, bdr, bsr, bzr⟩ := hrel
    by_cases hlt : k < s.jobs.length
    · have hx : s.jobs[k]? = some s.jobs[k] := List.getElem?_eq_getElem hlt
      generalize s.jobs[k] = x at *
      have hmx := mixL_at (downJ 2) s.jobs k x hx
      have hms := mixL_succ (downJ 2) s.jobs k x hx
      have hml := mixL_len (downJ 2) s.jobs k
      generalize hmk : mixL (downJ 2) s.jobs (k + 1) = js' at *
      generalize mixL (downJ 2) s.jobs k = js at *
      have hk0 : (0 : Int) ≤ (k : Int) := by omega
      have hk1 : (k : Int) < (s.jobs.length : Int) := by omega
      obtain ⟨g, cur, rfl, hbg, hgb, hcs, hcc⟩ := hOr.j.where_ (by rw [List.length_map, hml]; omega)
      have e1 : wr.cell? ⟨gd, 1, none⟩ = some (.slice (some ⟨g, 0, none⟩) s.jobs.length d1) := bdr.cell 1
      obtain ⟨e3, f3⟩ := hOr.j.cellAt (k := k) (j := 4) (r := rowJ x) (v := .string x.tag) (by rw [List.getElem?_map, hmx]; rfl) rfl
      have hO3 := hOr.setJ hmx 4 ⟨x.name, x.prio, x.need, x.tries, ByteArray.empty⟩ (.string ⟨#[]⟩) (by decide) rfl
      obtain ⟨bd3, hbg3⟩ := hOr.keepJ (by show 0 < js.length; omega) bdr (by decide) (k * 5 + 4) (.string ⟨#[]⟩)
      obtain ⟨bs3, _⟩ := hOr.keepJ (by show 0 < js.length; omega) bsr (by decide) (k * 5 + 4) (.string ⟨#[]⟩)
      obtain ⟨bz3, _⟩ := hOr.keepJ (by show 0 < js.length; omega) bzr (by decide) (k * 5 + 4) (.string ⟨#[]⟩)
      have hB3 : Below w.heap.size w (wr.setCell ⟨g, k * 5 + 4, none⟩ (.string ⟨#[]⟩)) := hBr.setCell (p := ⟨g, k * 5 + 4, none⟩) hbg3 _
      clear hOr bdr bsr bzr hgb
      have hfx : downJ 2 x = ⟨x.name, x.prio, x.need, x.tries, ByteArray.empty⟩ := rfl
      rw [← hfx, ← hms] at hO3
      have HO3 := Lib.hid hO3
      clear hO3 hms hfx hmx
      go_wp2_with fail
      go_roundw
      case rel => exact ⟨k + 1, by omega, by go_num, by rw [hmk]; exact HO3.out, hB3, bd3, bs3, bz3⟩
      case measure => simp [intOf]; omega
    · obtain rfl : k = s.jobs.length := by omega
      rw [mixL_end] at hOr
      have hlen : (s.jobs.map (downJ 2)).length = s.jobs.length := List.length_map _
      generalize hjs : s.jobs.map (downJ 2) = js at *
      have HJS := Lib.hid hjs
      have HLEN := Lib.hid hlen
      clear hjs hlen
      obtain ⟨wo, rfl⟩ : ∃ wo : World, wo = wr := ⟨_, rfl⟩
      have e1 : wo.cell? ⟨gd, 2, none⟩ = some (.slice q2 s.nodes.length d2) := bdr.cell 2
      go_wp2_with fail
      clear e1
      go_loopw [54] (fun i wr => ∃ k : Nat, k ≤ s.nodes.length ∧ i = .int .i64 k ∧ StOwn wr w.heap.size q1 q2 q3 d1 d2 d3 ⟨0, js, mixL (downN 2) s.nodes k, s.leases⟩ ∧ Below w.heap.size w wr ∧ Blk wr gd 26 #[Value.int .i64 0, Value.slice q1 s.jobs.length d1, Value.slice q2 s.nodes.length d2, Value.slice q3 s.leases.length d3] ∧ Blk wr w.heap.size 26 #[Value.int .i64 s.rev, Value.slice p1 s.jobs.length c1, Value.slice p2 s.nodes.length c2, Value.slice p3 s.leases.length c3] ∧ Blk wr (w.heap.size + 1) 26 #[Value.int .i64 0, Value.slice none 0 0, Value.slice none 0 0, Value.slice none 0 0]) (fun i _ => s.nodes.length - (intOf i).toNat)
      case atStart => exact ⟨0, Nat.zero_le _, rfl, by rw [mixL_zero]; exact hOr, hBr, bdr, bsr, bzr⟩
      case round =>
        clear hOr hBr bdr bsr bzr
        obtain ⟨k, hk, rfl, hOr, hBr, bdr, bsr, bzr⟩ := hrel
        by_cases hlt : k < s.nodes.length
        · have hx : s.nodes[k]? = some s.nodes[k] := List.getElem?_eq_getElem hlt
          generalize s.nodes[k] = x at *
          have hmx := mixL_at (downN 2) s.nodes k x hx
          have hms := mixL_succ (downN 2) s.nodes k x hx
          have hml := mixL_len (downN 2) s.nodes k
          generalize hmk : mixL (downN 2) s.nodes (k + 1) = ns' at *
          generalize mixL (downN 2) s.nodes k = ns at *
          have hfx : downN 2 x = x := rfl
          have hjx : ns' = ns := by rw [hms, hfx]; exact list_set_same hmx
          clear hms hfx hmx
          go_wp2_with fail
          go_roundw
          case rel => exact ⟨k + 1, by omega, by go_num, by rw [hmk, hjx]; exact hOr, hBr, bdr, bsr, bzr⟩
          case measure => simp [intOf]; omega
        · obtain rfl : k = s.nodes.length := by omega
          rw [mixL_end] at hOr
          have hds : (⟨0, js, s.nodes.map (downN 2), s.leases⟩ : St) = downS 2 s := by rw [← HJS.out]; rfl
          rw [hds] at hOr
          have hl1 : (downS 2 s).jobs.length = s.jobs.length := List.length_map _
          have hl2 : (downS 2 s).nodes.length = s.nodes.length := List.length_map _
          have hl3 : (downS 2 s).leases.length = s.leases.length := rfl
          have hl4 : (downS 2 s).rev = 0 := rfl
          have hSt := upSteps_any (downS 2 s) 2 3 (by decide) (by decide) (by decide) q1 q2 q3 d1 d2 d3 wr hOr.m (by omega) (by omega) (by omega)
          have hul := upTo_len (downS 2 s) 2 (3 - 2)
          have hu : upTo (downS 2 s) 2 (3 - 2) = upLast s 2 := rfl
          rw [hu] at hSt hul
          have hdb : downB s 2 = (decide ((upLast s 2).rev = s.rev) && (decide ((upLast s 2).jobs = s.jobs) && decide ((upLast s 2).nodes = s.nodes))) := rfl
          rw [hl1, hl2, hl3, hl4] at hSt
          rw [hl1, hl2, hl3] at hul
          have HD := Lib.hid (And.intro hl1 (And.intro hl2 (And.intro hl3 hl4)))
          have HU := Lib.hid hul
          have HDB := Lib.hid hdb
          have HS := Lib.hid hSt
          generalize upLast s 2 = u at *
          generalize downS 2 s = ds at *
          clear hSt hul hl1 hl2 hl3 hl4 hds hu hdb HJS HLEN
          go_wp2_with (refine wpList_load_blk rfl _ _ rfl gd rfl _ #[Value.int .i64 0, Value.slice q1 s.jobs.length d1, Value.slice q2 s.nodes.length d2, Value.slice q3 s.leases.length d3] bdr _ Tryd.underlying26 rfl state_size ?_)
          refine HS.out.mono ?_
          rintro e w6 ⟨r1, r2, r3, g1, g2, g3, rfl, hO6, hb6⟩
          obtain ⟨ul1, ul2, ul3⟩ := HU.out
          rw [ul1, ul2, ul3]
          have bd6 := bdr.below hb6 bdr.lt
          have bs6 := bsr.below hb6 bsr.lt
          have bz6 := bzr.below hb6 bzr.lt
          have hD6 := hOr.below hb6
          have hB6 := hBr.trans (hb6.mono hBr.size)
          clear bdr bsr bzr hOr hb6 hBr ul1 ul2 ul3 HS
          go_upto_region 24 with (refine wpList_store_new rfl _ _ _ rfl rfl 26 _ #[Value.int .i64 u.rev, Value.slice r1 s.jobs.length g1, Value.slice r2 s.nodes.length g2, Value.slice r3 s.leases.length g3] rfl state_size rfl (one_st4 _ _ _ _ _ _ _ _ _ _) ?_)
          have hb7 : Below w6.heap.size w6 (w6.alloc (.cells #[Value.int .i64 u.rev, Value.slice r1 s.jobs.length g1, Value.slice r2 s.nodes.length g2, Value.slice r3 s.leases.length g3] 26)) := (Below.refl _ _).alloc (Nat.le_refl _) _
          have bu7 := Blk.new w6 26 #[Value.int .i64 u.rev, Value.slice r1 s.jobs.length g1, Value.slice r2 s.nodes.length g2, Value.slice r3 s.leases.length g3]
          have bd7 := bd6.alloc (.cells #[Value.int .i64 u.rev, Value.slice r1 s.jobs.length g1, Value.slice r2 s.nodes.length g2, Value.slice r3 s.leases.length g3] 26)
          have bs7 := bs6.alloc (.cells #[Value.int .i64 u.rev, Value.slice r1 s.jobs.length g1, Value.slice r2 s.nodes.length g2, Value.slice r3 s.leases.length g3] 26)
          have bz7 := bz6.alloc (.cells #[Value.int .i64 u.rev, Value.slice r1 s.jobs.length g1, Value.slice r2 s.nodes.length g2, Value.slice r3 s.leases.length g3] 26)
          have hD7 := hD6.below hb7
          have hU7 := (hO6.below hb7).m
          have hB7 := hB6.alloc hB6.size (.cells #[Value.int .i64 u.rev, Value.slice r1 s.jobs.length g1, Value.slice r2 s.nodes.length g2, Value.slice r3 s.leases.length g3] 26)
          have hdu : gd < w6.heap.size := bd6.lt
          generalize hgu : w6.heap.size = gu at *
          generalize w6.alloc _ = w7 at *
          clear bd6 bs6 bz6 hD6 hO6 hB6 hb7 hgu
          obtain ⟨ul1, ul2, ul3⟩ := HU.out
          have hJ := fun (W : World) (hW : Abv w7 W) => seqJ_any r1 p1 g1 c1 u.jobs s.jobs W ((hU7.j.below hW).more hW.size) (((HM.out.j.below hB7).below (hW.mono hB7.size)).more (Nat.le_trans hB7.size hW.size)) (by omega) (by omega)
          have hN := fun (W : World) (hW : Abv w7 W) => seqN_any r2 p2 g2 c2 u.nodes s.nodes W ((hU7.n.below hW).more hW.size) (((HM.out.n.below hB7).below (hW.mono hB7.size)).more (Nat.le_trans hB7.size hW.size)) (by omega) (by omega)
          rw [ul1] at hJ
          rw [ul2] at hN
          have HJ := Lib.hid hJ
          have HN := Lib.hid hN
          clear hJ hN
          have hCells : ∀ (W : World), GrB w7 (w.heap.size + 1) W → (W.cell? ⟨gd, 0, none⟩ = some (.int .i64 0) ∧ W.cell? ⟨gd, 1, none⟩ = some (.slice q1 s.jobs.length d1) ∧ W.cell? ⟨gd, 2, none⟩ = some (.slice q2 s.nodes.length d2) ∧ W.cell? ⟨gd, 3, none⟩ = some (.slice q3 s.leases.length d3)) ∧
              (W.cell? ⟨gu, 0, none⟩ = some (.int .i64 u.rev) ∧ W.cell? ⟨gu, 1, none⟩ = some (.slice r1 s.jobs.length g1) ∧ W.cell? ⟨gu, 2, none⟩ = some (.slice r2 s.nodes.length g2)) ∧
              W.cell? ⟨w.heap.size, 0, none⟩ = some (.int .i64 s.rev) ∧ W.cell? ⟨w.heap.size, 1, none⟩ = some (.slice p1 s.jobs.length c1) ∧ W.cell? ⟨w.heap.size, 2, none⟩ = some (.slice p2 s.nodes.length c2) := fun W hW =>
            ⟨⟨(hW.blk bd7 (by omega)).cell 0, (hW.blk bd7 (by omega)).cell 1, (hW.blk bd7 (by omega)).cell 2, (hW.blk bd7 (by omega)).cell 3⟩, ⟨(hW.blk bu7 (by omega)).cell 0, (hW.blk bu7 (by omega)).cell 1, (hW.blk bu7 (by omega)).cell 2⟩, (hW.blk bs7 (by omega)).cell 0, (hW.blk bs7 (by omega)).cell 1, (hW.blk bs7 (by omega)).cell 2⟩
          have HQ := Lib.hid hCells
          have hZ : ∀ (W : World), Abv w7 W → Blk W (w.heap.size + 1) 26 #[Value.int .i64 0, Value.slice none 0 0, Value.slice none 0 0, Value.slice none 0 0] := fun W hW => bz7.below hW bz7.lt
          have HZ := Lib.hid hZ
          have hfin : ∀ W, Abv w7 W → StM (W.setRow (w.heap.size + 1) #[Value.int .i64 0, Value.slice q1 s.jobs.length d1, Value.slice q2 s.nodes.length d2, Value.slice q3 s.leases.length d3]) (W.setRow (w.heap.size + 1) #[Value.int .i64 0, Value.slice q1 s.jobs.length d1, Value.slice q2 s.nodes.length d2, Value.slice q3 s.leases.length d3]).heap.size q1 q2 q3 ds ∧ Below w.heap.size w (W.setRow (w.heap.size + 1) #[Value.int .i64 0, Value.slice q1 s.jobs.length d1, Value.slice q2 s.nodes.length d2, Value.slice q3 s.leases.length d3]) ∧ Blk (W.setRow (w.heap.size + 1) #[Value.int .i64 0, Value.slice q1 s.jobs.length d1, Value.slice q2 s.nodes.length d2, Value.slice q3 s.leases.length d3]) (w.heap.size + 1) 26 #[Value.int .i64 0, Value.slice q1 s.jobs.length d1, Value.slice q2 s.nodes.length d2, Value.slice q3 s.leases.length d3] := fun W hW =>
            ⟨((hD7.below hW).other (growR W (w.heap.size + 1) #[Value.int .i64 0, Value.slice q1 s.jobs.length d1, Value.slice q2 s.nodes.length d2, Value.slice q3 s.leases.length d3]) (hZ W hW) (by decide) (by decide) (by decide)).m, below_setRow (hB7.trans (Below.mono hW hB7.size)) (Nat.le_succ _) #[Value.int .i64 0, Value.slice q1 s.jobs.length d1, Value.slice q2 s.nodes.length d2, Value.slice q3 s.leases.length d3], (hZ W hW).setRow #[Value.int .i64 0, Value.slice q1 s.jobs.length d1, Value.slice q2 s.nodes.length d2, Value.slice q3 s.leases.length d3]⟩
          have HFIN := Lib.hid hfin
          clear hU7 ul1 ul2 ul3 hCells hZ hfin hD7 bd7 bu7 bs7 bz7 hB7
          have hrv : (u.rev == s.rev) = decide (u.rev = s.rev) := by rw [Bool.eq_iff_iff]; simp
          have HDB2 := Lib.hid (HDB.out)
          generalize decide (u.rev = s.rev) = xr at *
          generalize decide (u.jobs = s.jobs) = xj at *
          generalize decide (u.nodes = s.nodes) = xn at *
          clear HDB
          (try simp only [Act.put, List.setIfInBounds_toArray, List.set_cons_zero, List.set_cons_succ, List.getElem_toArray, List.getElem_cons_zero, List.getElem_cons_succ])
          have A0 : Abv w7 w7.drew := (Below.refl _ _).drew
          have G0 : GrB w7 (w.heap.size + 1) w7.drew := GrB.start _ _
          have hone := one_st4 0 q1 q2 q3 s.jobs.length s.nodes.length s.leases.length d1 d2 d3
          cases xr
          · skip
            refine wp_region_held_drew (S := GrB w7 (w.heap.size + 1)) (by kernel_rfl) G0 (fun hHeld => ?_)
            refine wpAnyH_take (i := 0) (v := ?_) rfl (by kernel_rfl) (by kernel_rfl) (by kernel_rfl) (fun _ _ _ h => h) (Or.inl ⟨by rfl, ?_⟩) (by assumption) ?_
            rotate_left
            · (intro w5 hw5; (try dsimp only at hw5); obtain ⟨⟨k0, k1, k2, k3⟩, ⟨k4, k5, k6⟩, k7, k8, k9⟩ := HQ.out w5 hw5; go_simp; (try with_reducible rfl))
            (try simp only [Act.put, List.setIfInBounds_toArray, List.set_cons_zero, List.set_cons_succ, List.getElem_toArray, List.getElem_cons_zero, List.getElem_cons_succ])
            refine wpAnyH_take (i := 1) (v := ?_) rfl (by kernel_rfl) (by kernel_rfl) (by kernel_rfl) (fun _ _ _ h => h) (Or.inl ⟨by rfl, ?_⟩) (by assumption) ?_
            rotate_left
            · (intro w5 hw5; (try dsimp only at hw5); obtain ⟨⟨k0, k1, k2, k3⟩, ⟨k4, k5, k6⟩, k7, k8, k9⟩ := HQ.out w5 hw5; go_simp; (try with_reducible rfl))
            (try simp only [Act.put, List.setIfInBounds_toArray, List.set_cons_zero, List.set_cons_succ, List.getElem_toArray, List.getElem_cons_zero, List.getElem_cons_succ])
            refine wpAnyH_take (i := 2) (v := ?_) rfl (by kernel_rfl) (by kernel_rfl) (by kernel_rfl) (fun _ _ _ h => h) (Or.inl ⟨by rfl, ?_⟩) (by assumption) ?_
            rotate_left
            · (intro w5 hw5; (try dsimp only at hw5); obtain ⟨⟨k0, k1, k2, k3⟩, ⟨k4, k5, k6⟩, k7, k8, k9⟩ := HQ.out w5 hw5; go_simp; (try with_reducible rfl))
            (try simp only [Act.put, List.setIfInBounds_toArray, List.set_cons_zero, List.set_cons_succ, List.getElem_toArray, List.getElem_cons_zero, List.getElem_cons_succ])
            refine wpAnyH_take (i := 3) (v := ?_) rfl (by kernel_rfl) (by kernel_rfl) (by kernel_rfl) (fun _ _ _ h => h) (Or.inl ⟨by rfl, ?_⟩) (by assumption) ?_
            rotate_left
            · (intro w5 hw5; (try dsimp only at hw5); obtain ⟨⟨k0, k1, k2, k3⟩, ⟨k4, k5, k6⟩, k7, k8, k9⟩ := HQ.out w5 hw5; go_simp; (try with_reducible rfl))
            (try simp only [Act.put, List.setIfInBounds_toArray, List.set_cons_zero, List.set_cons_succ, List.getElem_toArray, List.getElem_cons_zero, List.getElem_cons_succ])
            refine wpAnyH_take (i := 4) (v := ?_) rfl (by kernel_rfl) (by kernel_rfl) (by kernel_rfl) (fun _ _ _ h => h) (Or.inl ⟨by rfl, ?_⟩) (by assumption) ?_
            rotate_left
            · (intro w5 hw5; (try dsimp only at hw5); obtain ⟨⟨k0, k1, k2, k3⟩, ⟨k4, k5, k6⟩, k7, k8, k9⟩ := HQ.out w5 hw5; go_simp; (try with_reducible rfl))
            (try simp only [Act.put, List.setIfInBounds_toArray, List.set_cons_zero, List.set_cons_succ, List.getElem_toArray, List.getElem_cons_zero, List.getElem_cons_succ])
            refine wpAnyH_take (i := 5) (v := ?_) rfl (by kernel_rfl) (by kernel_rfl) (by kernel_rfl) (fun _ _ _ h => h) (Or.inl ⟨by rfl, ?_⟩) (by assumption) ?_
            rotate_left
            · (intro w5 hw5; (try dsimp only at hw5); obtain ⟨⟨k0, k1, k2, k3⟩, ⟨k4, k5, k6⟩, k7, k8, k9⟩ := HQ.out w5 hw5; go_simp; (try with_reducible rfl))
            (try simp only [Act.put, List.setIfInBounds_toArray, List.set_cons_zero, List.set_cons_succ, List.getElem_toArray, List.getElem_cons_zero, List.getElem_cons_succ])
            refine wpAnyH_take (i := 6) (v := ?_) rfl (by kernel_rfl) (by kernel_rfl) (by kernel_rfl) (fun _ _ _ h => h) (Or.inl ⟨by rfl, ?_⟩) (by assumption) ?_
            rotate_left
            · (intro w5 hw5; (try dsimp only at hw5); obtain ⟨⟨k0, k1, k2, k3⟩, ⟨k4, k5, k6⟩, k7, k8, k9⟩ := HQ.out w5 hw5; go_simp; (try with_reducible rfl))
            (try simp only [Act.put, List.setIfInBounds_toArray, List.set_cons_zero, List.set_cons_succ, List.getElem_toArray, List.getElem_cons_zero, List.getElem_cons_succ])
            refine wpAnyH_take (i := 7) (v := undef) rfl (by kernel_rfl) (by kernel_rfl) (by kernel_rfl) (fun _ _ _ h => h) (Or.inr ⟨by rfl, rfl⟩) (by assumption) ?_
            (try simp only [Act.put, List.setIfInBounds_toArray, List.set_cons_zero, List.set_cons_succ, List.getElem_toArray, List.getElem_cons_zero, List.getElem_cons_succ])
            refine wpAnyH_take (i := 8) (v := undef) rfl (by kernel_rfl) (by kernel_rfl) (by kernel_rfl) (fun _ _ _ h => h) (Or.inr ⟨by rfl, rfl⟩) (by assumption) ?_
            (try simp only [Act.put, List.setIfInBounds_toArray, List.set_cons_zero, List.set_cons_succ, List.getElem_toArray, List.getElem_cons_zero, List.getElem_cons_succ])
            refine wpAnyH_take (i := 9) (v := undef) rfl (by kernel_rfl) (by kernel_rfl) (by kernel_rfl) (fun _ _ _ h => h) (Or.inr ⟨by rfl, rfl⟩) (by assumption) ?_
            (try simp only [Act.put, List.setIfInBounds_toArray, List.set_cons_zero, List.set_cons_succ, List.getElem_toArray, List.getElem_cons_zero, List.getElem_cons_succ])
            refine wpAnyH_take (i := 10) (v := undef) rfl (by kernel_rfl) (by kernel_rfl) (by kernel_rfl) (fun _ _ _ h => h) (Or.inr ⟨by rfl, rfl⟩) (by assumption) ?_
            (try simp only [Act.put, List.setIfInBounds_toArray, List.set_cons_zero, List.set_cons_succ, List.getElem_toArray, List.getElem_cons_zero, List.getElem_cons_succ])
            refine wpAnyH_take (i := 11) (v := undef) rfl (by kernel_rfl) (by kernel_rfl) (by kernel_rfl) (fun _ _ _ h => h) (Or.inr ⟨by rfl, rfl⟩) (by assumption) ?_
            (try simp only [Act.put, List.setIfInBounds_toArray, List.set_cons_zero, List.set_cons_succ, List.getElem_toArray, List.getElem_cons_zero, List.getElem_cons_succ])
            refine wpAnyH_take (i := 12) (v := ?_) rfl (by kernel_rfl) (by kernel_rfl) (by kernel_rfl) (fun _ _ _ h => h) (Or.inl ⟨by rfl, ?_⟩) (by assumption) ?_
            rotate_left
            · (intro w5 hw5; (try dsimp only at hw5); obtain ⟨⟨k0, k1, k2, k3⟩, ⟨k4, k5, k6⟩, k7, k8, k9⟩ := HQ.out w5 hw5; go_simp; (try with_reducible rfl))
            (try simp only [Act.put, List.setIfInBounds_toArray, List.set_cons_zero, List.set_cons_succ, List.getElem_toArray, List.getElem_cons_zero, List.getElem_cons_succ])
            refine wpAnyH_take (i := 13) (v := ?_) rfl (by kernel_rfl) (by kernel_rfl) (by kernel_rfl) (fun _ _ _ h => h) (Or.inl ⟨by rfl, ?_⟩) (by assumption) ?_
            rotate_left
            · (intro w5 hw5; (try dsimp only at hw5); obtain ⟨⟨k0, k1, k2, k3⟩, ⟨k4, k5, k6⟩, k7, k8, k9⟩ := HQ.out w5 hw5; go_simp; (try with_reducible rfl))
            (try simp only [Act.put, List.setIfInBounds_toArray, List.set_cons_zero, List.set_cons_succ, List.getElem_toArray, List.getElem_cons_zero, List.getElem_cons_succ])
            refine wpAnyH_take (i := 14) (v := undef) rfl (by kernel_rfl) (by kernel_rfl) (by kernel_rfl) (fun _ _ _ h => h) (Or.inr ⟨by rfl, rfl⟩) (by assumption) ?_
            (try simp only [Act.put, List.setIfInBounds_toArray, List.set_cons_zero, List.set_cons_succ, List.getElem_toArray, List.getElem_cons_zero, List.getElem_cons_succ])
            refine wpAnyH_take (i := 15) (v := undef) rfl (by kernel_rfl) (by kernel_rfl) (by kernel_rfl) (fun _ _ _ h => h) (Or.inr ⟨by rfl, rfl⟩) (by assumption) ?_
            (try simp only [Act.put, List.setIfInBounds_toArray, List.set_cons_zero, List.set_cons_succ, List.getElem_toArray, List.getElem_cons_zero, List.getElem_cons_succ])
            refine wpAnyH_take (i := 16) (v := undef) rfl (by kernel_rfl) (by kernel_rfl) (by kernel_rfl) (fun _ _ _ h => h) (Or.inr ⟨by rfl, rfl⟩) (by assumption) ?_
            (try simp only [Act.put, List.setIfInBounds_toArray, List.set_cons_zero, List.set_cons_succ, List.getElem_toArray, List.getElem_cons_zero, List.getElem_cons_succ])
            refine wpAnyH_take (i := 17) (v := undef) rfl (by kernel_rfl) (by kernel_rfl) (by kernel_rfl) (fun _ _ _ h => h) (Or.inr ⟨by rfl, rfl⟩) (by assumption) ?_
            (try simp only [Act.put, List.setIfInBounds_toArray, List.set_cons_zero, List.set_cons_succ, List.getElem_toArray, List.getElem_cons_zero, List.getElem_cons_succ])
            refine wpAnyH_take (i := 18) (v := undef) rfl (by kernel_rfl) (by kernel_rfl) (by kernel_rfl) (fun _ _ _ h => h) (Or.inr ⟨by rfl, rfl⟩) (by assumption) ?_
            (try simp only [Act.put, List.setIfInBounds_toArray, List.set_cons_zero, List.set_cons_succ, List.getElem_toArray, List.getElem_cons_zero, List.getElem_cons_succ])
            refine wpAnyH_take (i := 19) (v := ?_) rfl (by kernel_rfl) (by kernel_rfl) (by kernel_rfl) (fun _ _ _ h => h) (Or.inl ⟨by rfl, ?_⟩) (by assumption) ?_
            rotate_left
            · (intro w5 hw5; (try dsimp only at hw5); obtain ⟨⟨k0, k1, k2, k3⟩, ⟨k4, k5, k6⟩, k7, k8, k9⟩ := HQ.out w5 hw5; go_simp; (try with_reducible rfl))
            (try simp only [Act.put, List.setIfInBounds_toArray, List.set_cons_zero, List.set_cons_succ, List.getElem_toArray, List.getElem_cons_zero, List.getElem_cons_succ])
            refine wpAnyH_ready (rs := [20]) (by kernel_rfl) (by simp) ?_
            refine AllReadyH.cons rfl (fun K hK => ?_) AllReadyH.nil
            refine step_store_blk rfl _ _ _ rfl (w.heap.size + 1) rfl _ _ #[Value.int .i64 0, Value.slice q1 s.jobs.length d1, Value.slice q2 s.nodes.length d2, Value.slice q3 s.leases.length d3] (HZ.out _ A0) rfl state_size rfl hone ?_
            refine hK.out _ _ ?_ (fun hHeld => ?_)
            · exact GrB.row G0 _
            clear hK K
            (try simp only [Act.put, List.setIfInBounds_toArray, List.set_cons_zero, List.set_cons_succ, List.getElem_toArray, List.getElem_cons_zero, List.getElem_cons_succ])
            refine wpAnyH_take (i := 21) (v := ?_) rfl (by kernel_rfl) (by kernel_rfl) (by kernel_rfl) (fun _ _ _ h => h) (Or.inl ⟨by rfl, ?_⟩) (by assumption) ?_
            rotate_left
            · (intro w5 hw5; (try dsimp only at hw5); obtain ⟨⟨k0, k1, k2, k3⟩, ⟨k4, k5, k6⟩, k7, k8, k9⟩ := HQ.out w5 hw5; go_simp; (try with_reducible rfl))
            (try simp only [Act.put, List.setIfInBounds_toArray, List.set_cons_zero, List.set_cons_succ, List.getElem_toArray, List.getElem_cons_zero, List.getElem_cons_succ])
            refine wpAnyH_take (i := 22) (v := ?_) rfl (by kernel_rfl) (by kernel_rfl) (by kernel_rfl) (fun _ _ _ h => h) (Or.inl ⟨by rfl, ?_⟩) (by assumption) ?_
            rotate_left
            · (intro w5 hw5; (try dsimp only at hw5); obtain ⟨⟨k0, k1, k2, k3⟩, ⟨k4, k5, k6⟩, k7, k8, k9⟩ := HQ.out w5 hw5; go_simp; (try with_reducible rfl))
            (try simp only [Act.put, List.setIfInBounds_toArray, List.set_cons_zero, List.set_cons_succ, List.getElem_toArray, List.getElem_cons_zero, List.getElem_cons_succ])
            refine wpAnyH_done (by kernel_rfl) ?_ _
            obtain ⟨f1, f2, f3⟩ := HFIN.out _ A0
            have F1 := Lib.hid f1
            have F2 := Lib.hid f2
            clear f1 f2
            go_wp2_with fail
            refine bodyPost_ret (results_cell_tmp2 rfl _ rfl f3 Tryd.underlying26 rfl state_size) rfl ?_
            obtain ⟨l1, l2, l3, l4⟩ := HD.out
            exact ⟨ds, _, 0, q1, q2, q3, d1, d2, d3, by rw [l1, l2, l3, l4]; rfl, F1.out, F2.out, by rw [HR.out, HDB2.out]; rfl⟩
          · cases xj
            · skip
              refine wp_region_held_drew (S := GrB w7 (w.heap.size + 1)) (by kernel_rfl) G0 (fun hHeld => ?_)
              refine wpAnyH_take (i := 0) (v := ?_) rfl (by kernel_rfl) (by kernel_rfl) (by kernel_rfl) (fun _ _ _ h => h) (Or.inl ⟨by rfl, ?_⟩) (by assumption) ?_
              rotate_left
              · (intro w5 hw5; (try dsimp only at hw5); obtain ⟨⟨k0, k1, k2, k3⟩, ⟨k4, k5, k6⟩, k7, k8, k9⟩ := HQ.out w5 hw5; go_simp; (try with_reducible rfl))
              (try simp only [Act.put, List.setIfInBounds_toArray, List.set_cons_zero, List.set_cons_succ, List.getElem_toArray, List.getElem_cons_zero, List.getElem_cons_succ])
              refine wpAnyH_take (i := 1) (v := ?_) rfl (by kernel_rfl) (by kernel_rfl) (by kernel_rfl) (fun _ _ _ h => h) (Or.inl ⟨by rfl, ?_⟩) (by assumption) ?_
              rotate_left
              · (intro w5 hw5; (try dsimp only at hw5); obtain ⟨⟨k0, k1, k2, k3⟩, ⟨k4, k5, k6⟩, k7, k8, k9⟩ := HQ.out w5 hw5; go_simp; (try with_reducible rfl))
              (try simp only [Act.put, List.setIfInBounds_toArray, List.set_cons_zero, List.set_cons_succ, List.getElem_toArray, List.getElem_cons_zero, List.getElem_cons_succ])
              refine wpAnyH_take (i := 2) (v := ?_) rfl (by kernel_rfl) (by kernel_rfl) (by kernel_rfl) (fun _ _ _ h => h) (Or.inl ⟨by rfl, ?_⟩) (by assumption) ?_
              rotate_left
              · (intro w5 hw5; (try dsimp only at hw5); obtain ⟨⟨k0, k1, k2, k3⟩, ⟨k4, k5, k6⟩, k7, k8, k9⟩ := HQ.out w5 hw5; go_simp; (try with_reducible rfl))
              (try simp only [Act.put, List.setIfInBounds_toArray, List.set_cons_zero, List.set_cons_succ, List.getElem_toArray, List.getElem_cons_zero, List.getElem_cons_succ])
              refine wpAnyH_take (i := 3) (v := ?_) rfl (by kernel_rfl) (by kernel_rfl) (by kernel_rfl) (fun _ _ _ h => h) (Or.inl ⟨by rfl, ?_⟩) (by assumption) ?_
              rotate_left
              · (intro w5 hw5; (try dsimp only at hw5); obtain ⟨⟨k0, k1, k2, k3⟩, ⟨k4, k5, k6⟩, k7, k8, k9⟩ := HQ.out w5 hw5; go_simp; (try with_reducible rfl))
              (try simp only [Act.put, List.setIfInBounds_toArray, List.set_cons_zero, List.set_cons_succ, List.getElem_toArray, List.getElem_cons_zero, List.getElem_cons_succ])
              refine wpAnyH_take (i := 4) (v := ?_) rfl (by kernel_rfl) (by kernel_rfl) (by kernel_rfl) (fun _ _ _ h => h) (Or.inl ⟨by rfl, ?_⟩) (by assumption) ?_
              rotate_left
              · (intro w5 hw5; (try dsimp only at hw5); obtain ⟨⟨k0, k1, k2, k3⟩, ⟨k4, k5, k6⟩, k7, k8, k9⟩ := HQ.out w5 hw5; go_simp; (try with_reducible rfl))
              (try simp only [Act.put, List.setIfInBounds_toArray, List.set_cons_zero, List.set_cons_succ, List.getElem_toArray, List.getElem_cons_zero, List.getElem_cons_succ])
              refine wpAnyH_take (i := 5) (v := ?_) rfl (by kernel_rfl) (by kernel_rfl) (by kernel_rfl) (fun _ _ _ h => h) (Or.inl ⟨by rfl, ?_⟩) (by assumption) ?_
              rotate_left
              · (intro w5 hw5; (try dsimp only at hw5); obtain ⟨⟨k0, k1, k2, k3⟩, ⟨k4, k5, k6⟩, k7, k8, k9⟩ := HQ.out w5 hw5; go_simp; (try with_reducible rfl))
              (try simp only [Act.put, List.setIfInBounds_toArray, List.set_cons_zero, List.set_cons_succ, List.getElem_toArray, List.getElem_cons_zero, List.getElem_cons_succ])
              refine wpAnyH_take (i := 6) (v := ?_) rfl (by kernel_rfl) (by kernel_rfl) (by kernel_rfl) (fun _ _ _ h => h) (Or.inl ⟨by rfl, ?_⟩) (by assumption) ?_
              rotate_left
              · (intro w5 hw5; (try dsimp only at hw5); obtain ⟨⟨k0, k1, k2, k3⟩, ⟨k4, k5, k6⟩, k7, k8, k9⟩ := HQ.out w5 hw5; go_simp; (try with_reducible rfl))
              (try simp only [Act.put, List.setIfInBounds_toArray, List.set_cons_zero, List.set_cons_succ, List.getElem_toArray, List.getElem_cons_zero, List.getElem_cons_succ])
              refine wpAnyH_take (i := 7) (v := ?_) rfl (by kernel_rfl) (by kernel_rfl) (by kernel_rfl) (fun _ _ _ h => h) (Or.inl ⟨by rfl, ?_⟩) (by assumption) ?_
              rotate_left
              · (intro w5 hw5; (try dsimp only at hw5); obtain ⟨⟨k0, k1, k2, k3⟩, ⟨k4, k5, k6⟩, k7, k8, k9⟩ := HQ.out w5 hw5; go_simp; (try with_reducible rfl))
              (try simp only [Act.put, List.setIfInBounds_toArray, List.set_cons_zero, List.set_cons_succ, List.getElem_toArray, List.getElem_cons_zero, List.getElem_cons_succ])
              refine wpAnyH_take (i := 8) (v := ?_) rfl (by kernel_rfl) (by kernel_rfl) (by kernel_rfl) (fun _ _ _ h => h) (Or.inl ⟨by rfl, ?_⟩) (by assumption) ?_
              rotate_left
              · (intro w5 hw5; (try dsimp only at hw5); obtain ⟨⟨k0, k1, k2, k3⟩, ⟨k4, k5, k6⟩, k7, k8, k9⟩ := HQ.out w5 hw5; go_simp; (try with_reducible rfl))
              (try simp only [Act.put, List.setIfInBounds_toArray, List.set_cons_zero, List.set_cons_succ, List.getElem_toArray, List.getElem_cons_zero, List.getElem_cons_succ])
              refine wpAnyH_take (i := 9) (v := ?_) rfl (by kernel_rfl) (by kernel_rfl) (by kernel_rfl) (fun _ _ _ h => h) (Or.inl ⟨by rfl, ?_⟩) (by assumption) ?_
              rotate_left
              · (intro w5 hw5; (try dsimp only at hw5); obtain ⟨⟨k0, k1, k2, k3⟩, ⟨k4, k5, k6⟩, k7, k8, k9⟩ := HQ.out w5 hw5; go_simp; (try with_reducible rfl))
              (try simp only [Act.put, List.setIfInBounds_toArray, List.set_cons_zero, List.set_cons_succ, List.getElem_toArray, List.getElem_cons_zero, List.getElem_cons_succ])
              refine wpAnyH_take (i := 10) (v := ?_) rfl (by kernel_rfl) (by kernel_rfl) (by kernel_rfl) (fun _ _ _ h => h) (Or.inl ⟨by rfl, ?_⟩) (by assumption) ?_
              rotate_left
              · (intro w5 hw5; (try dsimp only at hw5); obtain ⟨⟨k0, k1, k2, k3⟩, ⟨k4, k5, k6⟩, k7, k8, k9⟩ := HQ.out w5 hw5; go_simp; (try with_reducible rfl))
              (try simp only [Act.put, List.setIfInBounds_toArray, List.set_cons_zero, List.set_cons_succ, List.getElem_toArray, List.getElem_cons_zero, List.getElem_cons_succ])
              refine wpAnyH_ready (rs := [11]) (by kernel_rfl) (by simp) ?_
              refine AllReadyH.cons rfl (fun K hK => ?_) AllReadyH.nil
              go_simp
              refine (HJ.out _ A0).mono ?_
              rintro e w8 ⟨rfl, hb8⟩
              have A1 := Abv.step A0 hb8
              have G1 := GrB.more G0 hb8
              refine hK.out _ _ ?_ (fun hHeld => ?_)
              · exact G1
              clear hK K
              (try simp only [Act.put, List.setIfInBounds_toArray, List.set_cons_zero, List.set_cons_succ, List.getElem_toArray, List.getElem_cons_zero, List.getElem_cons_succ])
              refine wpAnyH_take (i := 12) (v := ?_) rfl (by kernel_rfl) (by kernel_rfl) (by kernel_rfl) (fun _ _ _ h => h) (Or.inl ⟨by rfl, ?_⟩) (by assumption) ?_
              rotate_left
              · (intro w5 hw5; (try dsimp only at hw5); obtain ⟨⟨k0, k1, k2, k3⟩, ⟨k4, k5, k6⟩, k7, k8, k9⟩ := HQ.out w5 hw5; go_simp; (try with_reducible rfl))
              (try simp only [Act.put, List.setIfInBounds_toArray, List.set_cons_zero, List.set_cons_succ, List.getElem_toArray, List.getElem_cons_zero, List.getElem_cons_succ])
              refine wpAnyH_take (i := 13) (v := ?_) rfl (by kernel_rfl) (by kernel_rfl) (by kernel_rfl) (fun _ _ _ h => h) (Or.inl ⟨by rfl, ?_⟩) (by assumption) ?_
              rotate_left
              · (intro w5 hw5; (try dsimp only at hw5); obtain ⟨⟨k0, k1, k2, k3⟩, ⟨k4, k5, k6⟩, k7, k8, k9⟩ := HQ.out w5 hw5; go_simp; (try with_reducible rfl))
              (try simp only [Act.put, List.setIfInBounds_toArray, List.set_cons_zero, List.set_cons_succ, List.getElem_toArray, List.getElem_cons_zero, List.getElem_cons_succ])
              refine wpAnyH_take (i := 14) (v := undef) rfl (by kernel_rfl) (by kernel_rfl) (by kernel_rfl) (fun _ _ _ h => h) (Or.inr ⟨by rfl, rfl⟩) (by assumption) ?_
              (try simp only [Act.put, List.setIfInBounds_toArray, List.set_cons_zero, List.set_cons_succ, List.getElem_toArray, List.getElem_cons_zero, List.getElem_cons_succ])
              refine wpAnyH_take (i := 15) (v := undef) rfl (by kernel_rfl) (by kernel_rfl) (by kernel_rfl) (fun _ _ _ h => h) (Or.inr ⟨by rfl, rfl⟩) (by assumption) ?_
              (try simp only [Act.put, List.setIfInBounds_toArray, List.set_cons_zero, List.set_cons_succ, List.getElem_toArray, List.getElem_cons_zero, List.getElem_cons_succ])
              refine wpAnyH_take (i := 16) (v := undef) rfl (by kernel_rfl) (by kernel_rfl) (by kernel_rfl) (fun _ _ _ h => h) (Or.inr ⟨by rfl, rfl⟩) (by assumption) ?_
              (try simp only [Act.put, List.setIfInBounds_toArray, List.set_cons_zero, List.set_cons_succ, List.getElem_toArray, List.getElem_cons_zero, List.getElem_cons_succ])
              refine wpAnyH_take (i := 17) (v := undef) rfl (by kernel_rfl) (by kernel_rfl) (by kernel_rfl) (fun _ _ _ h => h) (Or.inr ⟨by rfl, rfl⟩) (by assumption) ?_
              (try simp only [Act.put, List.setIfInBounds_toArray, List.set_cons_zero, List.set_cons_succ, List.getElem_toArray, List.getElem_cons_zero, List.getElem_cons_succ])
              refine wpAnyH_take (i := 18) (v := undef) rfl (by kernel_rfl) (by kernel_rfl) (by kernel_rfl) (fun _ _ _ h => h) (Or.inr ⟨by rfl, rfl⟩) (by assumption) ?_
              (try simp only [Act.put, List.setIfInBounds_toArray, List.set_cons_zero, List.set_cons_succ, List.getElem_toArray, List.getElem_cons_zero, List.getElem_cons_succ])
              refine wpAnyH_take (i := 19) (v := ?_) rfl (by kernel_rfl) (by kernel_rfl) (by kernel_rfl) (fun _ _ _ h => h) (Or.inl ⟨by rfl, ?_⟩) (by assumption) ?_
              rotate_left
              · (intro w5 hw5; (try dsimp only at hw5); obtain ⟨⟨k0, k1, k2, k3⟩, ⟨k4, k5, k6⟩, k7, k8, k9⟩ := HQ.out w5 hw5; go_simp; (try with_reducible rfl))
              (try simp only [Act.put, List.setIfInBounds_toArray, List.set_cons_zero, List.set_cons_succ, List.getElem_toArray, List.getElem_cons_zero, List.getElem_cons_succ])
              refine wpAnyH_ready (rs := [20]) (by kernel_rfl) (by simp) ?_
              refine AllReadyH.cons rfl (fun K hK => ?_) AllReadyH.nil
              refine step_store_blk rfl _ _ _ rfl (w.heap.size + 1) rfl _ _ #[Value.int .i64 0, Value.slice q1 s.jobs.length d1, Value.slice q2 s.nodes.length d2, Value.slice q3 s.leases.length d3] (HZ.out _ A1) rfl state_size rfl hone ?_
              refine hK.out _ _ ?_ (fun hHeld => ?_)
              · exact GrB.row G1 _
              clear hK K
              (try simp only [Act.put, List.setIfInBounds_toArray, List.set_cons_zero, List.set_cons_succ, List.getElem_toArray, List.getElem_cons_zero, List.getElem_cons_succ])
              refine wpAnyH_take (i := 21) (v := ?_) rfl (by kernel_rfl) (by kernel_rfl) (by kernel_rfl) (fun _ _ _ h => h) (Or.inl ⟨by rfl, ?_⟩) (by assumption) ?_
              rotate_left
              · (intro w5 hw5; (try dsimp only at hw5); obtain ⟨⟨k0, k1, k2, k3⟩, ⟨k4, k5, k6⟩, k7, k8, k9⟩ := HQ.out w5 hw5; go_simp; (try with_reducible rfl))
              (try simp only [Act.put, List.setIfInBounds_toArray, List.set_cons_zero, List.set_cons_succ, List.getElem_toArray, List.getElem_cons_zero, List.getElem_cons_succ])
              refine wpAnyH_take (i := 22) (v := ?_) rfl (by kernel_rfl) (by kernel_rfl) (by kernel_rfl) (fun _ _ _ h => h) (Or.inl ⟨by rfl, ?_⟩) (by assumption) ?_
              rotate_left
              · (intro w5 hw5; (try dsimp only at hw5); obtain ⟨⟨k0, k1, k2, k3⟩, ⟨k4, k5, k6⟩, k7, k8, k9⟩ := HQ.out w5 hw5; go_simp; (try with_reducible rfl))
              (try simp only [Act.put, List.setIfInBounds_toArray, List.set_cons_zero, List.set_cons_succ, List.getElem_toArray, List.getElem_cons_zero, List.getElem_cons_succ])
              refine wpAnyH_done (by kernel_rfl) ?_ _
              obtain ⟨f1, f2, f3⟩ := HFIN.out _ A1
              have F1 := Lib.hid f1
              have F2 := Lib.hid f2
              clear f1 f2
              go_wp2_with fail
              refine bodyPost_ret (results_cell_tmp2 rfl _ rfl f3 Tryd.underlying26 rfl state_size) rfl ?_
              obtain ⟨l1, l2, l3, l4⟩ := HD.out
              exact ⟨ds, _, 0, q1, q2, q3, d1, d2, d3, by rw [l1, l2, l3, l4]; rfl, F1.out, F2.out, by rw [HR.out, HDB2.out]; rfl⟩
            · cases xn
              · skip
                refine wp_region_held_drew (S := GrB w7 (w.heap.size + 1)) (by kernel_rfl) G0 (fun hHeld => ?_)
                refine wpAnyH_take (i := 0) (v := ?_) rfl (by kernel_rfl) (by kernel_rfl) (by kernel_rfl) (fun _ _ _ h => h) (Or.inl ⟨by rfl, ?_⟩) (by assumption) ?_
                rotate_left
                · (intro w5 hw5; (try dsimp only at hw5); obtain ⟨⟨k0, k1, k2, k3⟩, ⟨k4, k5, k6⟩, k7, k8, k9⟩ := HQ.out w5 hw5; go_simp; (try with_reducible rfl))
                (try simp only [Act.put, List.setIfInBounds_toArray, List.set_cons_zero, List.set_cons_succ, List.getElem_toArray, List.getElem_cons_zero, List.getElem_cons_succ])
                refine wpAnyH_take (i := 1) (v := ?_) rfl (by kernel_rfl) (by kernel_rfl) (by kernel_rfl) (fun _ _ _ h => h) (Or.inl ⟨by rfl, ?_⟩) (by assumption) ?_
                rotate_left
                · (intro w5 hw5; (try dsimp only at hw5); obtain ⟨⟨k0, k1, k2, k3⟩, ⟨k4, k5, k6⟩, k7, k8, k9⟩ := HQ.out w5 hw5; go_simp; (try with_reducible rfl))
                (try simp only [Act.put, List.setIfInBounds_toArray, List.set_cons_zero, List.set_cons_succ, List.getElem_toArray, List.getElem_cons_zero, List.getElem_cons_succ])
                refine wpAnyH_take (i := 2) (v := ?_) rfl (by kernel_rfl) (by kernel_rfl) (by kernel_rfl) (fun _ _ _ h => h) (Or.inl ⟨by rfl, ?_⟩) (by assumption) ?_
                rotate_left
                · (intro w5 hw5; (try dsimp only at hw5); obtain ⟨⟨k0, k1, k2, k3⟩, ⟨k4, k5, k6⟩, k7, k8, k9⟩ := HQ.out w5 hw5; go_simp; (try with_reducible rfl))
                (try simp only [Act.put, List.setIfInBounds_toArray, List.set_cons_zero, List.set_cons_succ, List.getElem_toArray, List.getElem_cons_zero, List.getElem_cons_succ])
                refine wpAnyH_take (i := 3) (v := ?_) rfl (by kernel_rfl) (by kernel_rfl) (by kernel_rfl) (fun _ _ _ h => h) (Or.inl ⟨by rfl, ?_⟩) (by assumption) ?_
                rotate_left
                · (intro w5 hw5; (try dsimp only at hw5); obtain ⟨⟨k0, k1, k2, k3⟩, ⟨k4, k5, k6⟩, k7, k8, k9⟩ := HQ.out w5 hw5; go_simp; (try with_reducible rfl))
                (try simp only [Act.put, List.setIfInBounds_toArray, List.set_cons_zero, List.set_cons_succ, List.getElem_toArray, List.getElem_cons_zero, List.getElem_cons_succ])
                refine wpAnyH_take (i := 4) (v := ?_) rfl (by kernel_rfl) (by kernel_rfl) (by kernel_rfl) (fun _ _ _ h => h) (Or.inl ⟨by rfl, ?_⟩) (by assumption) ?_
                rotate_left
                · (intro w5 hw5; (try dsimp only at hw5); obtain ⟨⟨k0, k1, k2, k3⟩, ⟨k4, k5, k6⟩, k7, k8, k9⟩ := HQ.out w5 hw5; go_simp; (try with_reducible rfl))
                (try simp only [Act.put, List.setIfInBounds_toArray, List.set_cons_zero, List.set_cons_succ, List.getElem_toArray, List.getElem_cons_zero, List.getElem_cons_succ])
                refine wpAnyH_take (i := 5) (v := ?_) rfl (by kernel_rfl) (by kernel_rfl) (by kernel_rfl) (fun _ _ _ h => h) (Or.inl ⟨by rfl, ?_⟩) (by assumption) ?_
                rotate_left
                · (intro w5 hw5; (try dsimp only at hw5); obtain ⟨⟨k0, k1, k2, k3⟩, ⟨k4, k5, k6⟩, k7, k8, k9⟩ := HQ.out w5 hw5; go_simp; (try with_reducible rfl))
                (try simp only [Act.put, List.setIfInBounds_toArray, List.set_cons_zero, List.set_cons_succ, List.getElem_toArray, List.getElem_cons_zero, List.getElem_cons_succ])
                refine wpAnyH_take (i := 6) (v := ?_) rfl (by kernel_rfl) (by kernel_rfl) (by kernel_rfl) (fun _ _ _ h => h) (Or.inl ⟨by rfl, ?_⟩) (by assumption) ?_
                rotate_left
                · (intro w5 hw5; (try dsimp only at hw5); obtain ⟨⟨k0, k1, k2, k3⟩, ⟨k4, k5, k6⟩, k7, k8, k9⟩ := HQ.out w5 hw5; go_simp; (try with_reducible rfl))
                (try simp only [Act.put, List.setIfInBounds_toArray, List.set_cons_zero, List.set_cons_succ, List.getElem_toArray, List.getElem_cons_zero, List.getElem_cons_succ])
                refine wpAnyH_take (i := 7) (v := ?_) rfl (by kernel_rfl) (by kernel_rfl) (by kernel_rfl) (fun _ _ _ h => h) (Or.inl ⟨by rfl, ?_⟩) (by assumption) ?_
                rotate_left
                · (intro w5 hw5; (try dsimp only at hw5); obtain ⟨⟨k0, k1, k2, k3⟩, ⟨k4, k5, k6⟩, k7, k8, k9⟩ := HQ.out w5 hw5; go_simp; (try with_reducible rfl))
                (try simp only [Act.put, List.setIfInBounds_toArray, List.set_cons_zero, List.set_cons_succ, List.getElem_toArray, List.getElem_cons_zero, List.getElem_cons_succ])
                refine wpAnyH_take (i := 8) (v := ?_) rfl (by kernel_rfl) (by kernel_rfl) (by kernel_rfl) (fun _ _ _ h => h) (Or.inl ⟨by rfl, ?_⟩) (by assumption) ?_
                rotate_left
                · (intro w5 hw5; (try dsimp only at hw5); obtain ⟨⟨k0, k1, k2, k3⟩, ⟨k4, k5, k6⟩, k7, k8, k9⟩ := HQ.out w5 hw5; go_simp; (try with_reducible rfl))
                (try simp only [Act.put, List.setIfInBounds_toArray, List.set_cons_zero, List.set_cons_succ, List.getElem_toArray, List.getElem_cons_zero, List.getElem_cons_succ])
                refine wpAnyH_take (i := 9) (v := ?_) rfl (by kernel_rfl) (by kernel_rfl) (by kernel_rfl) (fun _ _ _ h => h) (Or.inl ⟨by rfl, ?_⟩) (by assumption) ?_
                rotate_left
                · (intro w5 hw5; (try dsimp only at hw5); obtain ⟨⟨k0, k1, k2, k3⟩, ⟨k4, k5, k6⟩, k7, k8, k9⟩ := HQ.out w5 hw5; go_simp; (try with_reducible rfl))
                (try simp only [Act.put, List.setIfInBounds_toArray, List.set_cons_zero, List.set_cons_succ, List.getElem_toArray, List.getElem_cons_zero, List.getElem_cons_succ])
                refine wpAnyH_take (i := 10) (v := ?_) rfl (by kernel_rfl) (by kernel_rfl) (by kernel_rfl) (fun _ _ _ h => h) (Or.inl ⟨by rfl, ?_⟩) (by assumption) ?_
                rotate_left
                · (intro w5 hw5; (try dsimp only at hw5); obtain ⟨⟨k0, k1, k2, k3⟩, ⟨k4, k5, k6⟩, k7, k8, k9⟩ := HQ.out w5 hw5; go_simp; (try with_reducible rfl))
                (try simp only [Act.put, List.setIfInBounds_toArray, List.set_cons_zero, List.set_cons_succ, List.getElem_toArray, List.getElem_cons_zero, List.getElem_cons_succ])
                refine wpAnyH_ready (rs := [11]) (by kernel_rfl) (by simp) ?_
                refine AllReadyH.cons rfl (fun K hK => ?_) AllReadyH.nil
                go_simp
                refine (HJ.out _ A0).mono ?_
                rintro e w8 ⟨rfl, hb8⟩
                have A1 := Abv.step A0 hb8
                have G1 := GrB.more G0 hb8
                refine hK.out _ _ ?_ (fun hHeld => ?_)
                · exact G1
                clear hK K
                (try simp only [Act.put, List.setIfInBounds_toArray, List.set_cons_zero, List.set_cons_succ, List.getElem_toArray, List.getElem_cons_zero, List.getElem_cons_succ])
                refine wpAnyH_take (i := 12) (v := ?_) rfl (by kernel_rfl) (by kernel_rfl) (by kernel_rfl) (fun _ _ _ h => h) (Or.inl ⟨by rfl, ?_⟩) (by assumption) ?_
                rotate_left
                · (intro w5 hw5; (try dsimp only at hw5); obtain ⟨⟨k0, k1, k2, k3⟩, ⟨k4, k5, k6⟩, k7, k8, k9⟩ := HQ.out w5 hw5; go_simp; (try with_reducible rfl))
                (try simp only [Act.put, List.setIfInBounds_toArray, List.set_cons_zero, List.set_cons_succ, List.getElem_toArray, List.getElem_cons_zero, List.getElem_cons_succ])
                refine wpAnyH_take (i := 13) (v := ?_) rfl (by kernel_rfl) (by kernel_rfl) (by kernel_rfl) (fun _ _ _ h => h) (Or.inl ⟨by rfl, ?_⟩) (by assumption) ?_
                rotate_left
                · (intro w5 hw5; (try dsimp only at hw5); obtain ⟨⟨k0, k1, k2, k3⟩, ⟨k4, k5, k6⟩, k7, k8, k9⟩ := HQ.out w5 hw5; go_simp; (try with_reducible rfl))
                (try simp only [Act.put, List.setIfInBounds_toArray, List.set_cons_zero, List.set_cons_succ, List.getElem_toArray, List.getElem_cons_zero, List.getElem_cons_succ])
                refine wpAnyH_take (i := 14) (v := ?_) rfl (by kernel_rfl) (by kernel_rfl) (by kernel_rfl) (fun _ _ _ h => h) (Or.inl ⟨by rfl, ?_⟩) (by assumption) ?_
                rotate_left
                · (intro w5 hw5; (try dsimp only at hw5); obtain ⟨⟨k0, k1, k2, k3⟩, ⟨k4, k5, k6⟩, k7, k8, k9⟩ := HQ.out w5 hw5; go_simp; (try with_reducible rfl))
                (try simp only [Act.put, List.setIfInBounds_toArray, List.set_cons_zero, List.set_cons_succ, List.getElem_toArray, List.getElem_cons_zero, List.getElem_cons_succ])
                refine wpAnyH_take (i := 15) (v := ?_) rfl (by kernel_rfl) (by kernel_rfl) (by kernel_rfl) (fun _ _ _ h => h) (Or.inl ⟨by rfl, ?_⟩) (by assumption) ?_
                rotate_left
                · (intro w5 hw5; (try dsimp only at hw5); obtain ⟨⟨k0, k1, k2, k3⟩, ⟨k4, k5, k6⟩, k7, k8, k9⟩ := HQ.out w5 hw5; go_simp; (try with_reducible rfl))
                (try simp only [Act.put, List.setIfInBounds_toArray, List.set_cons_zero, List.set_cons_succ, List.getElem_toArray, List.getElem_cons_zero, List.getElem_cons_succ])
                refine wpAnyH_take (i := 16) (v := ?_) rfl (by kernel_rfl) (by kernel_rfl) (by kernel_rfl) (fun _ _ _ h => h) (Or.inl ⟨by rfl, ?_⟩) (by assumption) ?_
                rotate_left
                · (intro w5 hw5; (try dsimp only at hw5); obtain ⟨⟨k0, k1, k2, k3⟩, ⟨k4, k5, k6⟩, k7, k8, k9⟩ := HQ.out w5 hw5; go_simp; (try with_reducible rfl))
                (try simp only [Act.put, List.setIfInBounds_toArray, List.set_cons_zero, List.set_cons_succ, List.getElem_toArray, List.getElem_cons_zero, List.getElem_cons_succ])
                refine wpAnyH_take (i := 17) (v := ?_) rfl (by kernel_rfl) (by kernel_rfl) (by kernel_rfl) (fun _ _ _ h => h) (Or.inl ⟨by rfl, ?_⟩) (by assumption) ?_
                rotate_left
                · (intro w5 hw5; (try dsimp only at hw5); obtain ⟨⟨k0, k1, k2, k3⟩, ⟨k4, k5, k6⟩, k7, k8, k9⟩ := HQ.out w5 hw5; go_simp; (try with_reducible rfl))
                (try simp only [Act.put, List.setIfInBounds_toArray, List.set_cons_zero, List.set_cons_succ, List.getElem_toArray, List.getElem_cons_zero, List.getElem_cons_succ])
                refine wpAnyH_ready (rs := [18]) (by kernel_rfl) (by simp) ?_
                refine AllReadyH.cons rfl (fun K hK => ?_) AllReadyH.nil
                go_simp
                refine (HN.out _ A1).mono ?_
                rintro e w9 ⟨rfl, hb9⟩
                have A2 := Abv.step A1 hb9
                have G2 := GrB.more G1 hb9
                refine hK.out _ _ ?_ (fun hHeld => ?_)
                · exact G2
                clear hK K
                (try simp only [Act.put, List.setIfInBounds_toArray, List.set_cons_zero, List.set_cons_succ, List.getElem_toArray, List.getElem_cons_zero, List.getElem_cons_succ])
                refine wpAnyH_take (i := 19) (v := ?_) rfl (by kernel_rfl) (by kernel_rfl) (by kernel_rfl) (fun _ _ _ h => h) (Or.inl ⟨by rfl, ?_⟩) (by assumption) ?_
                rotate_left
                · (intro w5 hw5; (try dsimp only at hw5); obtain ⟨⟨k0, k1, k2, k3⟩, ⟨k4, k5, k6⟩, k7, k8, k9⟩ := HQ.out w5 hw5; go_simp; (try with_reducible rfl))
                (try simp only [Act.put, List.setIfInBounds_toArray, List.set_cons_zero, List.set_cons_succ, List.getElem_toArray, List.getElem_cons_zero, List.getElem_cons_succ])
                refine wpAnyH_ready (rs := [20]) (by kernel_rfl) (by simp) ?_
                refine AllReadyH.cons rfl (fun K hK => ?_) AllReadyH.nil
                refine step_store_blk rfl _ _ _ rfl (w.heap.size + 1) rfl _ _ #[Value.int .i64 0, Value.slice q1 s.jobs.length d1, Value.slice q2 s.nodes.length d2, Value.slice q3 s.leases.length d3] (HZ.out _ A2) rfl state_size rfl hone ?_
                refine hK.out _ _ ?_ (fun hHeld => ?_)
                · exact GrB.row G2 _
                clear hK K
                (try simp only [Act.put, List.setIfInBounds_toArray, List.set_cons_zero, List.set_cons_succ, List.getElem_toArray, List.getElem_cons_zero, List.getElem_cons_succ])
                refine wpAnyH_take (i := 21) (v := ?_) rfl (by kernel_rfl) (by kernel_rfl) (by kernel_rfl) (fun _ _ _ h => h) (Or.inl ⟨by rfl, ?_⟩) (by assumption) ?_
                rotate_left
                · (intro w5 hw5; (try dsimp only at hw5); obtain ⟨⟨k0, k1, k2, k3⟩, ⟨k4, k5, k6⟩, k7, k8, k9⟩ := HQ.out w5 hw5; go_simp; (try with_reducible rfl))
                (try simp only [Act.put, List.setIfInBounds_toArray, List.set_cons_zero, List.set_cons_succ, List.getElem_toArray, List.getElem_cons_zero, List.getElem_cons_succ])
                refine wpAnyH_take (i := 22) (v := ?_) rfl (by kernel_rfl) (by kernel_rfl) (by kernel_rfl) (fun _ _ _ h => h) (Or.inl ⟨by rfl, ?_⟩) (by assumption) ?_
                rotate_left
                · (intro w5 hw5; (try dsimp only at hw5); obtain ⟨⟨k0, k1, k2, k3⟩, ⟨k4, k5, k6⟩, k7, k8, k9⟩ := HQ.out w5 hw5; go_simp; (try with_reducible rfl))
                (try simp only [Act.put, List.setIfInBounds_toArray, List.set_cons_zero, List.set_cons_succ, List.getElem_toArray, List.getElem_cons_zero, List.getElem_cons_succ])
                refine wpAnyH_done (by kernel_rfl) ?_ _
                obtain ⟨f1, f2, f3⟩ := HFIN.out _ A2
                have F1 := Lib.hid f1
                have F2 := Lib.hid f2
                clear f1 f2
                go_wp2_with fail
                refine bodyPost_ret (results_cell_tmp2 rfl _ rfl f3 Tryd.underlying26 rfl state_size) rfl ?_
                obtain ⟨l1, l2, l3, l4⟩ := HD.out
                exact ⟨ds, _, 0, q1, q2, q3, d1, d2, d3, by rw [l1, l2, l3, l4]; rfl, F1.out, F2.out, by rw [HR.out, HDB2.out]; rfl⟩
              · skip
                refine wp_region_held_drew (S := GrB w7 (w.heap.size + 1)) (by kernel_rfl) G0 (fun hHeld => ?_)
                refine wpAnyH_take (i := 0) (v := ?_) rfl (by kernel_rfl) (by kernel_rfl) (by kernel_rfl) (fun _ _ _ h => h) (Or.inl ⟨by rfl, ?_⟩) (by assumption) ?_
                rotate_left
                · (intro w5 hw5; (try dsimp only at hw5); obtain ⟨⟨k0, k1, k2, k3⟩, ⟨k4, k5, k6⟩, k7, k8, k9⟩ := HQ.out w5 hw5; go_simp; (try with_reducible rfl))
                (try simp only [Act.put, List.setIfInBounds_toArray, List.set_cons_zero, List.set_cons_succ, List.getElem_toArray, List.getElem_cons_zero, List.getElem_cons_succ])
                refine wpAnyH_take (i := 1) (v := ?_) rfl (by kernel_rfl) (by kernel_rfl) (by kernel_rfl) (fun _ _ _ h => h) (Or.inl ⟨by rfl, ?_⟩) (by assumption) ?_
                rotate_left
                · (intro w5 hw5; (try dsimp only at hw5); obtain ⟨⟨k0, k1, k2, k3⟩, ⟨k4, k5, k6⟩, k7, k8, k9⟩ := HQ.out w5 hw5; go_simp; (try with_reducible rfl))
                (try simp only [Act.put, List.setIfInBounds_toArray, List.set_cons_zero, List.set_cons_succ, List.getElem_toArray, List.getElem_cons_zero, List.getElem_cons_succ])
                refine wpAnyH_take (i := 2) (v := ?_) rfl (by kernel_rfl) (by kernel_rfl) (by kernel_rfl) (fun _ _ _ h => h) (Or.inl ⟨by rfl, ?_⟩) (by assumption) ?_
                rotate_left
                · (intro w5 hw5; (try dsimp only at hw5); obtain ⟨⟨k0, k1, k2, k3⟩, ⟨k4, k5, k6⟩, k7, k8, k9⟩ := HQ.out w5 hw5; go_simp; (try with_reducible rfl))
                (try simp only [Act.put, List.setIfInBounds_toArray, List.set_cons_zero, List.set_cons_succ, List.getElem_toArray, List.getElem_cons_zero, List.getElem_cons_succ])
                refine wpAnyH_take (i := 3) (v := ?_) rfl (by kernel_rfl) (by kernel_rfl) (by kernel_rfl) (fun _ _ _ h => h) (Or.inl ⟨by rfl, ?_⟩) (by assumption) ?_
                rotate_left
                · (intro w5 hw5; (try dsimp only at hw5); obtain ⟨⟨k0, k1, k2, k3⟩, ⟨k4, k5, k6⟩, k7, k8, k9⟩ := HQ.out w5 hw5; go_simp; (try with_reducible rfl))
                (try simp only [Act.put, List.setIfInBounds_toArray, List.set_cons_zero, List.set_cons_succ, List.getElem_toArray, List.getElem_cons_zero, List.getElem_cons_succ])
                refine wpAnyH_take (i := 4) (v := ?_) rfl (by kernel_rfl) (by kernel_rfl) (by kernel_rfl) (fun _ _ _ h => h) (Or.inl ⟨by rfl, ?_⟩) (by assumption) ?_
                rotate_left
                · (intro w5 hw5; (try dsimp only at hw5); obtain ⟨⟨k0, k1, k2, k3⟩, ⟨k4, k5, k6⟩, k7, k8, k9⟩ := HQ.out w5 hw5; go_simp; (try with_reducible rfl))
                (try simp only [Act.put, List.setIfInBounds_toArray, List.set_cons_zero, List.set_cons_succ, List.getElem_toArray, List.getElem_cons_zero, List.getElem_cons_succ])
                refine wpAnyH_take (i := 5) (v := ?_) rfl (by kernel_rfl) (by kernel_rfl) (by kernel_rfl) (fun _ _ _ h => h) (Or.inl ⟨by rfl, ?_⟩) (by assumption) ?_
                rotate_left
                · (intro w5 hw5; (try dsimp only at hw5); obtain ⟨⟨k0, k1, k2, k3⟩, ⟨k4, k5, k6⟩, k7, k8, k9⟩ := HQ.out w5 hw5; go_simp; (try with_reducible rfl))
                (try simp only [Act.put, List.setIfInBounds_toArray, List.set_cons_zero, List.set_cons_succ, List.getElem_toArray, List.getElem_cons_zero, List.getElem_cons_succ])
                refine wpAnyH_take (i := 6) (v := ?_) rfl (by kernel_rfl) (by kernel_rfl) (by kernel_rfl) (fun _ _ _ h => h) (Or.inl ⟨by rfl, ?_⟩) (by assumption) ?_
                rotate_left
                · (intro w5 hw5; (try dsimp only at hw5); obtain ⟨⟨k0, k1, k2, k3⟩, ⟨k4, k5, k6⟩, k7, k8, k9⟩ := HQ.out w5 hw5; go_simp; (try with_reducible rfl))
                (try simp only [Act.put, List.setIfInBounds_toArray, List.set_cons_zero, List.set_cons_succ, List.getElem_toArray, List.getElem_cons_zero, List.getElem_cons_succ])
                refine wpAnyH_take (i := 7) (v := ?_) rfl (by kernel_rfl) (by kernel_rfl) (by kernel_rfl) (fun _ _ _ h => h) (Or.inl ⟨by rfl, ?_⟩) (by assumption) ?_
                rotate_left
                · (intro w5 hw5; (try dsimp only at hw5); obtain ⟨⟨k0, k1, k2, k3⟩, ⟨k4, k5, k6⟩, k7, k8, k9⟩ := HQ.out w5 hw5; go_simp; (try with_reducible rfl))
                (try simp only [Act.put, List.setIfInBounds_toArray, List.set_cons_zero, List.set_cons_succ, List.getElem_toArray, List.getElem_cons_zero, List.getElem_cons_succ])
                refine wpAnyH_take (i := 8) (v := ?_) rfl (by kernel_rfl) (by kernel_rfl) (by kernel_rfl) (fun _ _ _ h => h) (Or.inl ⟨by rfl, ?_⟩) (by assumption) ?_
                rotate_left
                · (intro w5 hw5; (try dsimp only at hw5); obtain ⟨⟨k0, k1, k2, k3⟩, ⟨k4, k5, k6⟩, k7, k8, k9⟩ := HQ.out w5 hw5; go_simp; (try with_reducible rfl))
                (try simp only [Act.put, List.setIfInBounds_toArray, List.set_cons_zero, List.set_cons_succ, List.getElem_toArray, List.getElem_cons_zero, List.getElem_cons_succ])
                refine wpAnyH_take (i := 9) (v := ?_) rfl (by kernel_rfl) (by kernel_rfl) (by kernel_rfl) (fun _ _ _ h => h) (Or.inl ⟨by rfl, ?_⟩) (by assumption) ?_
                rotate_left
                · (intro w5 hw5; (try dsimp only at hw5); obtain ⟨⟨k0, k1, k2, k3⟩, ⟨k4, k5, k6⟩, k7, k8, k9⟩ := HQ.out w5 hw5; go_simp; (try with_reducible rfl))
                (try simp only [Act.put, List.setIfInBounds_toArray, List.set_cons_zero, List.set_cons_succ, List.getElem_toArray, List.getElem_cons_zero, List.getElem_cons_succ])
                refine wpAnyH_take (i := 10) (v := ?_) rfl (by kernel_rfl) (by kernel_rfl) (by kernel_rfl) (fun _ _ _ h => h) (Or.inl ⟨by rfl, ?_⟩) (by assumption) ?_
                rotate_left
                · (intro w5 hw5; (try dsimp only at hw5); obtain ⟨⟨k0, k1, k2, k3⟩, ⟨k4, k5, k6⟩, k7, k8, k9⟩ := HQ.out w5 hw5; go_simp; (try with_reducible rfl))
                (try simp only [Act.put, List.setIfInBounds_toArray, List.set_cons_zero, List.set_cons_succ, List.getElem_toArray, List.getElem_cons_zero, List.getElem_cons_succ])
                refine wpAnyH_ready (rs := [11]) (by kernel_rfl) (by simp) ?_
                refine AllReadyH.cons rfl (fun K hK => ?_) AllReadyH.nil
                go_simp
                refine (HJ.out _ A0).mono ?_
                rintro e w8 ⟨rfl, hb8⟩
                have A1 := Abv.step A0 hb8
                have G1 := GrB.more G0 hb8
                refine hK.out _ _ ?_ (fun hHeld => ?_)
                · exact G1
                clear hK K
                (try simp only [Act.put, List.setIfInBounds_toArray, List.set_cons_zero, List.set_cons_succ, List.getElem_toArray, List.getElem_cons_zero, List.getElem_cons_succ])
                refine wpAnyH_take (i := 12) (v := ?_) rfl (by kernel_rfl) (by kernel_rfl) (by kernel_rfl) (fun _ _ _ h => h) (Or.inl ⟨by rfl, ?_⟩) (by assumption) ?_
                rotate_left
                · (intro w5 hw5; (try dsimp only at hw5); obtain ⟨⟨k0, k1, k2, k3⟩, ⟨k4, k5, k6⟩, k7, k8, k9⟩ := HQ.out w5 hw5; go_simp; (try with_reducible rfl))
                (try simp only [Act.put, List.setIfInBounds_toArray, List.set_cons_zero, List.set_cons_succ, List.getElem_toArray, List.getElem_cons_zero, List.getElem_cons_succ])
                refine wpAnyH_take (i := 13) (v := ?_) rfl (by kernel_rfl) (by kernel_rfl) (by kernel_rfl) (fun _ _ _ h => h) (Or.inl ⟨by rfl, ?_⟩) (by assumption) ?_
                rotate_left
                · (intro w5 hw5; (try dsimp only at hw5); obtain ⟨⟨k0, k1, k2, k3⟩, ⟨k4, k5, k6⟩, k7, k8, k9⟩ := HQ.out w5 hw5; go_simp; (try with_reducible rfl))
                (try simp only [Act.put, List.setIfInBounds_toArray, List.set_cons_zero, List.set_cons_succ, List.getElem_toArray, List.getElem_cons_zero, List.getElem_cons_succ])
                refine wpAnyH_take (i := 14) (v := ?_) rfl (by kernel_rfl) (by kernel_rfl) (by kernel_rfl) (fun _ _ _ h => h) (Or.inl ⟨by rfl, ?_⟩) (by assumption) ?_
                rotate_left
                · (intro w5 hw5; (try dsimp only at hw5); obtain ⟨⟨k0, k1, k2, k3⟩, ⟨k4, k5, k6⟩, k7, k8, k9⟩ := HQ.out w5 hw5; go_simp; (try with_reducible rfl))
                (try simp only [Act.put, List.setIfInBounds_toArray, List.set_cons_zero, List.set_cons_succ, List.getElem_toArray, List.getElem_cons_zero, List.getElem_cons_succ])
                refine wpAnyH_take (i := 15) (v := ?_) rfl (by kernel_rfl) (by kernel_rfl) (by kernel_rfl) (fun _ _ _ h => h) (Or.inl ⟨by rfl, ?_⟩) (by assumption) ?_
                rotate_left
                · (intro w5 hw5; (try dsimp only at hw5); obtain ⟨⟨k0, k1, k2, k3⟩, ⟨k4, k5, k6⟩, k7, k8, k9⟩ := HQ.out w5 hw5; go_simp; (try with_reducible rfl))
                (try simp only [Act.put, List.setIfInBounds_toArray, List.set_cons_zero, List.set_cons_succ, List.getElem_toArray, List.getElem_cons_zero, List.getElem_cons_succ])
                refine wpAnyH_take (i := 16) (v := ?_) rfl (by kernel_rfl) (by kernel_rfl) (by kernel_rfl) (fun _ _ _ h => h) (Or.inl ⟨by rfl, ?_⟩) (by assumption) ?_
                rotate_left
                · (intro w5 hw5; (try dsimp only at hw5); obtain ⟨⟨k0, k1, k2, k3⟩, ⟨k4, k5, k6⟩, k7, k8, k9⟩ := HQ.out w5 hw5; go_simp; (try with_reducible rfl))
                (try simp only [Act.put, List.setIfInBounds_toArray, List.set_cons_zero, List.set_cons_succ, List.getElem_toArray, List.getElem_cons_zero, List.getElem_cons_succ])
                refine wpAnyH_take (i := 17) (v := ?_) rfl (by kernel_rfl) (by kernel_rfl) (by kernel_rfl) (fun _ _ _ h => h) (Or.inl ⟨by rfl, ?_⟩) (by assumption) ?_
                rotate_left
                · (intro w5 hw5; (try dsimp only at hw5); obtain ⟨⟨k0, k1, k2, k3⟩, ⟨k4, k5, k6⟩, k7, k8, k9⟩ := HQ.out w5 hw5; go_simp; (try with_reducible rfl))
                (try simp only [Act.put, List.setIfInBounds_toArray, List.set_cons_zero, List.set_cons_succ, List.getElem_toArray, List.getElem_cons_zero, List.getElem_cons_succ])
                refine wpAnyH_ready (rs := [18]) (by kernel_rfl) (by simp) ?_
                refine AllReadyH.cons rfl (fun K hK => ?_) AllReadyH.nil
                go_simp
                refine (HN.out _ A1).mono ?_
                rintro e w9 ⟨rfl, hb9⟩
                have A2 := Abv.step A1 hb9
                have G2 := GrB.more G1 hb9
                refine hK.out _ _ ?_ (fun hHeld => ?_)
                · exact G2
                clear hK K
                (try simp only [Act.put, List.setIfInBounds_toArray, List.set_cons_zero, List.set_cons_succ, List.getElem_toArray, List.getElem_cons_zero, List.getElem_cons_succ])
                refine wpAnyH_take (i := 19) (v := ?_) rfl (by kernel_rfl) (by kernel_rfl) (by kernel_rfl) (fun _ _ _ h => h) (Or.inl ⟨by rfl, ?_⟩) (by assumption) ?_
                rotate_left
                · (intro w5 hw5; (try dsimp only at hw5); obtain ⟨⟨k0, k1, k2, k3⟩, ⟨k4, k5, k6⟩, k7, k8, k9⟩ := HQ.out w5 hw5; go_simp; (try with_reducible rfl))
                (try simp only [Act.put, List.setIfInBounds_toArray, List.set_cons_zero, List.set_cons_succ, List.getElem_toArray, List.getElem_cons_zero, List.getElem_cons_succ])
                refine wpAnyH_ready (rs := [20]) (by kernel_rfl) (by simp) ?_
                refine AllReadyH.cons rfl (fun K hK => ?_) AllReadyH.nil
                refine step_store_blk rfl _ _ _ rfl (w.heap.size + 1) rfl _ _ #[Value.int .i64 0, Value.slice q1 s.jobs.length d1, Value.slice q2 s.nodes.length d2, Value.slice q3 s.leases.length d3] (HZ.out _ A2) rfl state_size rfl hone ?_
                refine hK.out _ _ ?_ (fun hHeld => ?_)
                · exact GrB.row G2 _
                clear hK K
                (try simp only [Act.put, List.setIfInBounds_toArray, List.set_cons_zero, List.set_cons_succ, List.getElem_toArray, List.getElem_cons_zero, List.getElem_cons_succ])
                refine wpAnyH_take (i := 21) (v := ?_) rfl (by kernel_rfl) (by kernel_rfl) (by kernel_rfl) (fun _ _ _ h => h) (Or.inl ⟨by rfl, ?_⟩) (by assumption) ?_
                rotate_left
                · (intro w5 hw5; (try dsimp only at hw5); obtain ⟨⟨k0, k1, k2, k3⟩, ⟨k4, k5, k6⟩, k7, k8, k9⟩ := HQ.out w5 hw5; go_simp; (try with_reducible rfl))
                (try simp only [Act.put, List.setIfInBounds_toArray, List.set_cons_zero, List.set_cons_succ, List.getElem_toArray, List.getElem_cons_zero, List.getElem_cons_succ])
                refine wpAnyH_take (i := 22) (v := ?_) rfl (by kernel_rfl) (by kernel_rfl) (by kernel_rfl) (fun _ _ _ h => h) (Or.inl ⟨by rfl, ?_⟩) (by assumption) ?_
                rotate_left
                · (intro w5 hw5; (try dsimp only at hw5); obtain ⟨⟨k0, k1, k2, k3⟩, ⟨k4, k5, k6⟩, k7, k8, k9⟩ := HQ.out w5 hw5; go_simp; (try with_reducible rfl))
                (try simp only [Act.put, List.setIfInBounds_toArray, List.set_cons_zero, List.set_cons_succ, List.getElem_toArray, List.getElem_cons_zero, List.getElem_cons_succ])
                refine wpAnyH_done (by kernel_rfl) ?_ _
                obtain ⟨f1, f2, f3⟩ := HFIN.out _ A2
                have F1 := Lib.hid f1
                have F2 := Lib.hid f2
                clear f1 f2
                go_wp2_with fail
                refine bodyPost_ret (results_cell_tmp2 rfl _ rfl f3 Tryd.underlying26 rfl state_size) rfl ?_
                obtain ⟨l1, l2, l3, l4⟩ := HD.out
                exact ⟨ds, _, 0, q1, q2, q3, d1, d2, d3, by rw [l1, l2, l3, l4]; rfl, F1.out, F2.out, by rw [HR.out, HDB2.out]; rfl⟩
end Go.Proofs.YtejdhcipmkaboaaDoor

/-
  The contract of up.Down, to version 3.
-/
set_option linter.unusedVariables false
set_option linter.unusedSimpArgs false
namespace Go.Proofs.YtejdhcipmkaboaaDoor
open Go.RowKit
set_option maxHeartbeats 8000000 in
set_option maxRecDepth 100000 in
theorem down_3 (s : St) (p1 p2 p3 : Option Addr) (c1 c2 c3 : Nat) (w : World) (hm : StM w w.heap.size p1 p2 p3 s) (hz : StSz s) (hT : Tabs w) (hc : checkE s = 0) :
    Calls Tryd.prog 25 #[.agg #[.int .i64 s.rev, .slice p1 s.jobs.length c1, .slice p2 s.nodes.length c2, .slice p3 s.leases.length c3], .int .i64 3] w fun e w' => DownPost w (downR s 3) e w' := by
  have hzs := zero_state_lit
  have hF := (fine_iff s).1 hc
  have lj : s.jobs.length ≤ 40 := hF.nj
  have ln : s.nodes.length ≤ 20 := hF.nn
  have ll : s.leases.length ≤ 40 := hF.nl
  have hR : downR s 3 = (downS 3 s, downB s 3, 0) := by
    unfold downR
    rw [if_neg (by rw [hc]; simp), if_neg (by decide)]
  have bs := (Blk.new w 26 #[Value.int .i64 s.rev, Value.slice p1 s.jobs.length c1, Value.slice p2 s.nodes.length c2, Value.slice p3 s.leases.length c3]).alloc (.cells #[Value.int .i64 0, Value.slice none 0 0, Value.slice none 0 0, Value.slice none 0 0] 26)
  have bz := blk_new_of (show (w.alloc (.cells #[Value.int .i64 s.rev, Value.slice p1 s.jobs.length c1, Value.slice p2 s.nodes.length c2, Value.slice p3 s.leases.length c3] 26)).heap.size = w.heap.size + 1 by simp) 26 #[Value.int .i64 0, Value.slice none 0 0, Value.slice none 0 0, Value.slice none 0 0]
  have hB0 : Below w.heap.size w ((w.alloc (.cells #[Value.int .i64 s.rev, Value.slice p1 s.jobs.length c1, Value.slice p2 s.nodes.length c2, Value.slice p3 s.leases.length c3] 26)).alloc (.cells #[Value.int .i64 0, Value.slice none 0 0, Value.slice none 0 0, Value.slice none 0 0] 26)) := ((Below.refl _ _).alloc (Nat.le_refl _) _).alloc (by simp) _
  have hC := stCheck_any s p1 p2 p3 c1 c2 c3 _ ((hm.below hB0).more hB0.size) hz (hT.below hB0)
  rw [hc] at hC
  have hO := fun (W : World) (hW : Below w.heap.size w W) => upOwn_any s p1 p2 p3 c1 c2 c3 W ((hm.below hW).more hW.size) (by omega) (by omega) (by omega)
  have HC := Lib.hid hC
  have HO := Lib.hid hO
  have HR := Lib.hid hR
  have HM := Lib.hid hm
  clear hm hz hT hC hR hO hc hF
  go_enter Tryd.func25, Tryd.ntmps25
  go_upto_region 1 with (fail)
  generalize (w.alloc (.cells #[Value.int .i64 s.rev, Value.slice p1 s.jobs.length c1, Value.slice p2 s.nodes.length c2, Value.slice p3 s.leases.length c3] 26)).alloc _ = w0 at *
  go_wp2_with (refine wpList_load_blk rfl _ _ rfl w.heap.size rfl _ #[Value.int .i64 s.rev, Value.slice p1 s.jobs.length c1, Value.slice p2 s.nodes.length c2, Value.slice p3 s.leases.length c3] bs _ Tryd.underlying26 rfl state_size ?_)
  refine HC.out.mono ?_
  rintro e w1 ⟨rfl, hb1⟩
  have bs1 := bs.below hb1 bs.lt
  have bz1 := bz.below hb1 bz.lt
  have hB1 := hB0.trans (hb1.mono hB0.size)
  clear bs bz hb1 HC
  go_wp2_with (refine wpList_load_blk rfl _ _ rfl w.heap.size rfl _ #[Value.int .i64 s.rev, Value.slice p1 s.jobs.length c1, Value.slice p2 s.nodes.length c2, Value.slice p3 s.leases.length c3] bs1 _ Tryd.underlying26 rfl state_size ?_)
  refine (HO.out w1 hB1).mono ?_
  rintro e w2 ⟨q1, q2, q3, d1, d2, d3, rfl, hO2, hb2⟩
  have bs2 := bs1.below hb2 bs1.lt
  have bz2 := bz1.below hb2 bz1.lt
  have hB2 := hB1.trans (hb2.mono hB1.size)
  have hO2 := hO2.less hB1.size
  have hgs : w.heap.size < w2.heap.size := bs2.lt
  have hgz : w.heap.size + 1 < w2.heap.size := bz2.lt
  clear bs1 bz1 hb2 HO hB1 hB0
  go_upto_region 7 with (refine wpList_store_new rfl _ _ _ rfl rfl 26 _ #[Value.int .i64 s.rev, Value.slice q1 s.jobs.length d1, Value.slice q2 s.nodes.length d2, Value.slice q3 s.leases.length d3] rfl state_size rfl (one_st4 _ _ _ _ _ _ _ _ _ _) ?_)
  have bd3 := Blk.new w2 26 #[Value.int .i64 s.rev, Value.slice q1 s.jobs.length d1, Value.slice q2 s.nodes.length d2, Value.slice q3 s.leases.length d3]
  have bs3 := bs2.alloc (.cells #[Value.int .i64 s.rev, Value.slice q1 s.jobs.length d1, Value.slice q2 s.nodes.length d2, Value.slice q3 s.leases.length d3] 26)
  have bz3 := bz2.alloc (.cells #[Value.int .i64 s.rev, Value.slice q1 s.jobs.length d1, Value.slice q2 s.nodes.length d2, Value.slice q3 s.leases.length d3] 26)
  have hO3 := hO2.below ((Below.refl w2.heap.size w2).alloc (Nat.le_refl _) (.cells #[Value.int .i64 s.rev, Value.slice q1 s.jobs.length d1, Value.slice q2 s.nodes.length d2, Value.slice q3 s.leases.length d3] 26))
  have hB3 := hB2.alloc hB2.size (.cells #[Value.int .i64 s.rev, Value.slice q1 s.jobs.length d1, Value.slice q2 s.nodes.length d2, Value.slice q3 s.leases.length d3] 26)
  clear bs2 bz2 hO2 hB2
  generalize hgd : w2.heap.size = gd at *
  generalize w2.alloc _ = w3 at *
  clear hgd
  have bd4 := bd3
  have bs4 := bs3
  have bz4 := bz3
  have hO4 := hO3
  have hB4 := hB3
  clear bs3 bz3 bd3 hO3 hB3
  go_upto_region 9 with (fail)
  obtain ⟨w4, rfl⟩ : ∃ w4 : World, w4 = w3 := ⟨_, rfl⟩
  have e1 : w4.cell? ⟨gd, 1, none⟩ = some (.slice q1 s.jobs.length d1) := bd4.cell 1
  go_wp2_with fail
  clear e1
  go_loopw [33] (fun i wr => ∃ k : Nat, k ≤ s.jobs.length ∧ i = .int .i64 k ∧ StOwn wr w.heap.size q1 q2 q3 d1 d2 d3 ⟨s.rev, mixL (downJ 3) s.jobs k, s.nodes, s.leases⟩ ∧ Below w.heap.size w wr ∧ Blk wr gd 26 #[Value.int .i64 s.rev, Value.slice q1 s.jobs.length d1, Value.slice q2 s.nodes.length d2, Value.slice q3 s.leases.length d3] ∧ Blk wr w.heap.size 26 #[Value.int .i64 s.rev, Value.slice p1 s.jobs.length c1, Value.slice p2 s.nodes.length c2, Value.slice p3 s.leases.length c3] ∧ Blk wr (w.heap.size + 1) 26 #[Value.int .i64 0, Value.slice none 0 0, Value.slice none 0 0, Value.slice none 0 0]) (fun i _ => s.jobs.length - (intOf i).toNat)
  case atStart => exact ⟨0, Nat.zero_le _, rfl, by rw [mixL_zero]; exact ⟨hO4.j, hO4.n, hO4.l⟩, hB4, bd4, bs4, bz4⟩
  case round =>
    clear hO4 hB4 bd4 bs4 bz4
    obtain ⟨k, hk, rfl, hOr, hBr, bdr, bsr, bzr⟩ := hrel
    by_cases hlt : k < s.jobs.length
    · have hx : s.jobs[k]? = some s.jobs[k] := List.getElem?_eq_getElem hlt
      generalize s.jobs[k] = x at *
      have hmx := mixL_at (downJ 3) s.jobs k x hx
      have hms := mixL_succ (downJ 3) s.jobs k x hx
      have hml := mixL_len (downJ 3) s.jobs k
      generalize hmk : mixL (downJ 3) s.jobs (k + 1) = js' at *
      generalize mixL (downJ 3) s.jobs k = js at *
      have hfx : downJ 3 x = x := rfl
      have hjx : js' = js := by rw [hms, hfx]; exact list_set_same hmx
      clear hms hfx hmx
      go_wp2_with fail
      go_roundw
      case rel => exact ⟨k + 1, by omega, by go_num, by rw [hmk, hjx]; exact hOr, hBr, bdr, bsr, bzr⟩
      case measure => simp [intOf]; omega
    · obtain rfl : k = s.jobs.length := by omega
      rw [mixL_end] at hOr
      have hlen : (s.jobs.map (downJ 3)).length = s.jobs.length := List.length_map _
      generalize hjs : s.jobs.map (downJ 3) = js at *
      have HJS := Lib.hid hjs
      have HLEN := Lib.hid hlen
      clear hjs hlen
      obtain ⟨wo, rfl⟩ : ∃ wo : World, wo = wr := ⟨_, rfl⟩
      have e1 : wo.cell? ⟨gd, 2, none⟩ = some (.slice q2 s.nodes.length d2) := bdr.cell 2
      go_wp2_with fail
      clear e1
      go_loopw [54] (fun i wr => ∃ k : Nat, k ≤ s.nodes.length ∧ i = .int .i64 k ∧ StOwn wr w.heap.size q1 q2 q3 d1 d2 d3 ⟨s.rev, js, mixL (downN 3) s.nodes k, s.leases⟩ ∧ Below w.heap.size w wr ∧ Blk wr gd 26 #[Value.int .i64 s.rev, Value.slice q1 s.jobs.length d1, Value.slice q2 s.nodes.length d2, Value.slice q3 s.leases.length d3] ∧ Blk wr w.heap.size 26 #[Value.int .i64 s.rev, Value.slice p1 s.jobs.length c1, Value.slice p2 s.nodes.length c2, Value.slice p3 s.leases.length c3] ∧ Blk wr (w.heap.size + 1) 26 #[Value.int .i64 0, Value.slice none 0 0, Value.slice none 0 0, Value.slice none 0 0]) (fun i _ => s.nodes.length - (intOf i).toNat)
      case atStart => exact ⟨0, Nat.zero_le _, rfl, by rw [mixL_zero]; exact hOr, hBr, bdr, bsr, bzr⟩
      case round =>
        clear hOr hBr bdr bsr bzr
        obtain ⟨k, hk, rfl, hOr, hBr, bdr, bsr, bzr⟩ := hrel
        by_cases hlt : k < s.nodes.length
        · have hx : s.nodes[k]? = some s.nodes[k] := List.getElem?_eq_getElem hlt
          generalize s.nodes[k] = x at *
          have hmx := mixL_at (downN 3) s.nodes k x hx
          have hms := mixL_succ (downN 3) s.nodes k x hx
          have hml := mixL_len (downN 3) s.nodes k
          generalize hmk : mixL (downN 3) s.nodes (k + 1) = ns' at *
          generalize mixL (downN 3) s.nodes k = ns at *
          have hfx : downN 3 x = x := rfl
          have hjx : ns' = ns := by rw [hms, hfx]; exact list_set_same hmx
          clear hms hfx hmx
          go_wp2_with fail
          go_roundw
          case rel => exact ⟨k + 1, by omega, by go_num, by rw [hmk, hjx]; exact hOr, hBr, bdr, bsr, bzr⟩
          case measure => simp [intOf]; omega
        · obtain rfl : k = s.nodes.length := by omega
          rw [mixL_end] at hOr
          have hds : (⟨s.rev, js, s.nodes.map (downN 3), s.leases⟩ : St) = downS 3 s := by rw [← HJS.out]; rfl
          rw [hds] at hOr
          have hl1 : (downS 3 s).jobs.length = s.jobs.length := List.length_map _
          have hl2 : (downS 3 s).nodes.length = s.nodes.length := List.length_map _
          have hl3 : (downS 3 s).leases.length = s.leases.length := rfl
          have hl4 : (downS 3 s).rev = s.rev := rfl
          have hSt := upSteps_any (downS 3 s) 3 3 (by decide) (by decide) (by decide) q1 q2 q3 d1 d2 d3 wr hOr.m (by omega) (by omega) (by omega)
          have hul := upTo_len (downS 3 s) 3 (3 - 3)
          have hu : upTo (downS 3 s) 3 (3 - 3) = upLast s 3 := rfl
          rw [hu] at hSt hul
          have hdb : downB s 3 = (decide ((upLast s 3).rev = s.rev) && (decide ((upLast s 3).jobs = s.jobs) && decide ((upLast s 3).nodes = s.nodes))) := rfl
          rw [hl1, hl2, hl3, hl4] at hSt
          rw [hl1, hl2, hl3] at hul
          have HD := Lib.hid (And.intro hl1 (And.intro hl2 (And.intro hl3 hl4)))
          have HU := Lib.hid hul
          have HDB := Lib.hid hdb
          have HS := Lib.hid hSt
          generalize upLast s 3 = u at *
          generalize downS 3 s = ds at *
          clear hSt hul hl1 hl2 hl3 hl4 hds hu hdb HJS HLEN
          go_wp2_with (refine wpList_load_blk rfl _ _ rfl gd rfl _ #[Value.int .i64 s.rev, Value.slice q1 s.jobs.length d1, Value.slice q2 s.nodes.length d2, Value.slice q3 s.leases.length d3] bdr _ Tryd.underlying26 rfl state_size ?_)
          refine HS.out.mono ?_
          rintro e w6 ⟨r1, r2, r3, g1, g2, g3, rfl, hO6, hb6⟩
          obtain ⟨ul1, ul2, ul3⟩ := HU.out
          rw [ul1, ul2, ul3]
          have bd6 := bdr.below hb6 bdr.lt
          have bs6 := bsr.below hb6 bsr.lt
          have bz6 := bzr.below hb6 bzr.lt
          have hD6 := hOr.below hb6
          have hB6 := hBr.trans (hb6.mono hBr.size)
          clear bdr bsr bzr hOr hb6 hBr ul1 ul2 ul3 HS
          go_upto_region 24 with (refine wpList_store_new rfl _ _ _ rfl rfl 26 _ #[Value.int .i64 u.rev, Value.slice r1 s.jobs.length g1, Value.slice r2 s.nodes.length g2, Value.slice r3 s.leases.length g3] rfl state_size rfl (one_st4 _ _ _ _ _ _ _ _ _ _) ?_)
          have hb7 : Below w6.heap.size w6 (w6.alloc (.cells #[Value.int .i64 u.rev, Value.slice r1 s.jobs.length g1, Value.slice r2 s.nodes.length g2, Value.slice r3 s.leases.length g3] 26)) := (Below.refl _ _).alloc (Nat.le_refl _) _
          have bu7 := Blk.new w6 26 #[Value.int .i64 u.rev, Value.slice r1 s.jobs.length g1, Value.slice r2 s.nodes.length g2, Value.slice r3 s.leases.length g3]
          have bd7 := bd6.alloc (.cells #[Value.int .i64 u.rev, Value.slice r1 s.jobs.length g1, Value.slice r2 s.nodes.length g2, Value.slice r3 s.leases.length g3] 26)
          have bs7 := bs6.alloc (.cells #[Value.int .i64 u.rev, Value.slice r1 s.jobs.length g1, Value.slice r2 s.nodes.length g2, Value.slice r3 s.leases.length g3] 26)
          have bz7 := bz6.alloc (.cells #[Value.int .i64 u.rev, Value.slice r1 s.jobs.length g1, Value.slice r2 s.nodes.length g2, Value.slice r3 s.leases.length g3] 26)
          have hD7 := hD6.below hb7
          have hU7 := (hO6.below hb7).m
          have hB7 := hB6.alloc hB6.size (.cells #[Value.int .i64 u.rev, Value.slice r1 s.jobs.length g1, Value.slice r2 s.nodes.length g2, Value.slice r3 s.leases.length g3] 26)
          have hdu : gd < w6.heap.size := bd6.lt
          generalize hgu : w6.heap.size = gu at *
          generalize w6.alloc _ = w7 at *
          clear bd6 bs6 bz6 hD6 hO6 hB6 hb7 hgu
          obtain ⟨ul1, ul2, ul3⟩ := HU.out
          have hJ := fun (W : World) (hW : Abv w7 W) => seqJ_any r1 p1 g1 c1 u.jobs s.jobs W ((hU7.j.below hW).more hW.size) (((HM.out.j.below hB7).below (hW.mono hB7.size)).more (Nat.le_trans hB7.size hW.size)) (by omega) (by omega)
          have hN := fun (W : World) (hW : Abv w7 W) => seqN_any r2 p2 g2 c2 u.nodes s.nodes W ((hU7.n.below hW).more hW.size) (((HM.out.n.below hB7).below (hW.mono hB7.size)).more (Nat.le_trans hB7.size hW.size)) (by omega) (by omega)
          rw [ul1] at hJ
          rw [ul2] at hN
          have HJ := Lib.hid hJ
          have HN := Lib.hid hN
          clear hJ hN
          have hCells : ∀ (W : World), GrB w7 (w.heap.size + 1) W → (W.cell? ⟨gd, 0, none⟩ = some (.int .i64 s.rev) ∧ W.cell? ⟨gd, 1, none⟩ = some (.slice q1 s.jobs.length d1) ∧ W.cell? ⟨gd, 2, none⟩ = some (.slice q2 s.nodes.length d2) ∧ W.cell? ⟨gd, 3, none⟩ = some (.slice q3 s.leases.length d3)) ∧
              (W.cell? ⟨gu, 0, none⟩ = some (.int .i64 u.rev) ∧ W.cell? ⟨gu, 1, none⟩ = some (.slice r1 s.jobs.length g1) ∧ W.cell? ⟨gu, 2, none⟩ = some (.slice r2 s.nodes.length g2)) ∧
              W.cell? ⟨w.heap.size, 0, none⟩ = some (.int .i64 s.rev) ∧ W.cell? ⟨w.heap.size, 1, none⟩ = some (.slice p1 s.jobs.length c1) ∧ W.cell? ⟨w.heap.size, 2, none⟩ = some (.slice p2 s.nodes.length c2) := fun W hW =>
            ⟨⟨(hW.blk bd7 (by omega)).cell 0, (hW.blk bd7 (by omega)).cell 1, (hW.blk bd7 (by omega)).cell 2, (hW.blk bd7 (by omega)).cell 3⟩, ⟨(hW.blk bu7 (by omega)).cell 0, (hW.blk bu7 (by omega)).cell 1, (hW.blk bu7 (by omega)).cell 2⟩, (hW.blk bs7 (by omega)).cell 0, (hW.blk bs7 (by omega)).cell 1, (hW.blk bs7 (by omega)).cell 2⟩
          have HQ := Lib.hid hCells
          have hZ : ∀ (W : World), Abv w7 W → Blk W (w.heap.size + 1) 26 #[Value.int .i64 0, Value.slice none 0 0, Value.slice none 0 0, Value.slice none 0 0] := fun W hW => bz7.below hW bz7.lt
          have HZ := Lib.hid hZ
          have hfin : ∀ W, Abv w7 W → StM (W.setRow (w.heap.size + 1) #[Value.int .i64 s.rev, Value.slice q1 s.jobs.length d1, Value.slice q2 s.nodes.length d2, Value.slice q3 s.leases.length d3]) (W.setRow (w.heap.size + 1) #[Value.int .i64 s.rev, Value.slice q1 s.jobs.length d1, Value.slice q2 s.nodes.length d2, Value.slice q3 s.leases.length d3]).heap.size q1 q2 q3 ds ∧ Below w.heap.size w (W.setRow (w.heap.size + 1) #[Value.int .i64 s.rev, Value.slice q1 s.jobs.length d1, Value.slice q2 s.nodes.length d2, Value.slice q3 s.leases.length d3]) ∧ Blk (W.setRow (w.heap.size + 1) #[Value.int .i64 s.rev, Value.slice q1 s.jobs.length d1, Value.slice q2 s.nodes.length d2, Value.slice q3 s.leases.length d3]) (w.heap.size + 1) 26 #[Value.int .i64 s.rev, Value.slice q1 s.jobs.length d1, Value.slice q2 s.nodes.length d2, Value.slice q3 s.leases.length d3] := fun W hW =>
            ⟨((hD7.below hW).other (growR W (w.heap.size + 1) #[Value.int .i64 s.rev, Value.slice q1 s.jobs.length d1, Value.slice q2 s.nodes.length d2, Value.slice q3 s.leases.length d3]) (hZ W hW) (by decide) (by decide) (by decide)).m, below_setRow (hB7.trans (Below.mono hW hB7.size)) (Nat.le_succ _) #[Value.int .i64 s.rev, Value.slice q1 s.jobs.length d1, Value.slice q2 s.nodes.length d2, Value.slice q3 s.leases.length d3], (hZ W hW).setRow #[Value.int .i64 s.rev, Value.slice q1 s.jobs.length d1, Value.slice q2 s.nodes.length d2, Value.slice q3 s.leases.length d3]⟩
          have HFIN := Lib.hid hfin
          clear hU7 ul1 ul2 ul3 hCells hZ hfin hD7 bd7 bu7 bs7 bz7 hB7
          have hrv : (u.rev == s.rev) = decide (u.rev = s.rev) := by rw [Bool.eq_iff_iff]; simp
          have HDB2 := Lib.hid (HDB.out)
          generalize decide (u.rev = s.rev) = xr at *
          generalize decide (u.jobs = s.jobs) = xj at *
          generalize decide (u.nodes = s.nodes) = xn at *
          clear HDB
          (try simp only [Act.put, List.setIfInBounds_toArray, List.set_cons_zero, List.set_cons_succ, List.getElem_toArray, List.getElem_cons_zero, List.getElem_cons_succ])
          have A0 : Abv w7 w7.drew := (Below.refl _ _).drew
          have G0 : GrB w7 (w.heap.size + 1) w7.drew := GrB.start _ _
          have hone := one_st4 s.rev q1 q2 q3 s.jobs.length s.nodes.length s.leases.length d1 d2 d3
          cases xr
          · skip
            refine wp_region_held_drew (S := GrB w7 (w.heap.size + 1)) (by kernel_rfl) G0 (fun hHeld => ?_)
            refine wpAnyH_take (i := 0) (v := ?_) rfl (by kernel_rfl) (by kernel_rfl) (by kernel_rfl) (fun _ _ _ h => h) (Or.inl ⟨by rfl, ?_⟩) (by assumption) ?_
            rotate_left
            · (intro w5 hw5; (try dsimp only at hw5); obtain ⟨⟨k0, k1, k2, k3⟩, ⟨k4, k5, k6⟩, k7, k8, k9⟩ := HQ.out w5 hw5; go_simp; (try with_reducible rfl))
            (try simp only [Act.put, List.setIfInBounds_toArray, List.set_cons_zero, List.set_cons_succ, List.getElem_toArray, List.getElem_cons_zero, List.getElem_cons_succ])
            refine wpAnyH_take (i := 1) (v := ?_) rfl (by kernel_rfl) (by kernel_rfl) (by kernel_rfl) (fun _ _ _ h => h) (Or.inl ⟨by rfl, ?_⟩) (by assumption) ?_
            rotate_left
            · (intro w5 hw5; (try dsimp only at hw5); obtain ⟨⟨k0, k1, k2, k3⟩, ⟨k4, k5, k6⟩, k7, k8, k9⟩ := HQ.out w5 hw5; go_simp; (try with_reducible rfl))
            (try simp only [Act.put, List.setIfInBounds_toArray, List.set_cons_zero, List.set_cons_succ, List.getElem_toArray, List.getElem_cons_zero, List.getElem_cons_succ])
            refine wpAnyH_take (i := 2) (v := ?_) rfl (by kernel_rfl) (by kernel_rfl) (by kernel_rfl) (fun _ _ _ h => h) (Or.inl ⟨by rfl, ?_⟩) (by assumption) ?_
            rotate_left
            · (intro w5 hw5; (try dsimp only at hw5); obtain ⟨⟨k0, k1, k2, k3⟩, ⟨k4, k5, k6⟩, k7, k8, k9⟩ := HQ.out w5 hw5; go_simp; (try with_reducible rfl))
            (try simp only [Act.put, List.setIfInBounds_toArray, List.set_cons_zero, List.set_cons_succ, List.getElem_toArray, List.getElem_cons_zero, List.getElem_cons_succ])
            refine wpAnyH_take (i := 3) (v := ?_) rfl (by kernel_rfl) (by kernel_rfl) (by kernel_rfl) (fun _ _ _ h => h) (Or.inl ⟨by rfl, ?_⟩) (by assumption) ?_
            rotate_left
            · (intro w5 hw5; (try dsimp only at hw5); obtain ⟨⟨k0, k1, k2, k3⟩, ⟨k4, k5, k6⟩, k7, k8, k9⟩ := HQ.out w5 hw5; go_simp; (try with_reducible rfl))
            (try simp only [Act.put, List.setIfInBounds_toArray, List.set_cons_zero, List.set_cons_succ, List.getElem_toArray, List.getElem_cons_zero, List.getElem_cons_succ])
            refine wpAnyH_take (i := 4) (v := ?_) rfl (by kernel_rfl) (by kernel_rfl) (by kernel_rfl) (fun _ _ _ h => h) (Or.inl ⟨by rfl, ?_⟩) (by assumption) ?_
            rotate_left
            · (intro w5 hw5; (try dsimp only at hw5); obtain ⟨⟨k0, k1, k2, k3⟩, ⟨k4, k5, k6⟩, k7, k8, k9⟩ := HQ.out w5 hw5; go_simp; (try with_reducible rfl))
            (try simp only [Act.put, List.setIfInBounds_toArray, List.set_cons_zero, List.set_cons_succ, List.getElem_toArray, List.getElem_cons_zero, List.getElem_cons_succ])
            refine wpAnyH_take (i := 5) (v := ?_) rfl (by kernel_rfl) (by kernel_rfl) (by kernel_rfl) (fun _ _ _ h => h) (Or.inl ⟨by rfl, ?_⟩) (by assumption) ?_
            rotate_left
            · (intro w5 hw5; (try dsimp only at hw5); obtain ⟨⟨k0, k1, k2, k3⟩, ⟨k4, k5, k6⟩, k7, k8, k9⟩ := HQ.out w5 hw5; go_simp; (try with_reducible rfl))
            (try simp only [Act.put, List.setIfInBounds_toArray, List.set_cons_zero, List.set_cons_succ, List.getElem_toArray, List.getElem_cons_zero, List.getElem_cons_succ])
            refine wpAnyH_take (i := 6) (v := ?_) rfl (by kernel_rfl) (by kernel_rfl) (by kernel_rfl) (fun _ _ _ h => h) (Or.inl ⟨by rfl, ?_⟩) (by assumption) ?_
            rotate_left
            · (intro w5 hw5; (try dsimp only at hw5); obtain ⟨⟨k0, k1, k2, k3⟩, ⟨k4, k5, k6⟩, k7, k8, k9⟩ := HQ.out w5 hw5; go_simp; (try with_reducible rfl))
            (try simp only [Act.put, List.setIfInBounds_toArray, List.set_cons_zero, List.set_cons_succ, List.getElem_toArray, List.getElem_cons_zero, List.getElem_cons_succ])
            refine wpAnyH_take (i := 7) (v := undef) rfl (by kernel_rfl) (by kernel_rfl) (by kernel_rfl) (fun _ _ _ h => h) (Or.inr ⟨by rfl, rfl⟩) (by assumption) ?_
            (try simp only [Act.put, List.setIfInBounds_toArray, List.set_cons_zero, List.set_cons_succ, List.getElem_toArray, List.getElem_cons_zero, List.getElem_cons_succ])
            refine wpAnyH_take (i := 8) (v := undef) rfl (by kernel_rfl) (by kernel_rfl) (by kernel_rfl) (fun _ _ _ h => h) (Or.inr ⟨by rfl, rfl⟩) (by assumption) ?_
            (try simp only [Act.put, List.setIfInBounds_toArray, List.set_cons_zero, List.set_cons_succ, List.getElem_toArray, List.getElem_cons_zero, List.getElem_cons_succ])
            refine wpAnyH_take (i := 9) (v := undef) rfl (by kernel_rfl) (by kernel_rfl) (by kernel_rfl) (fun _ _ _ h => h) (Or.inr ⟨by rfl, rfl⟩) (by assumption) ?_
            (try simp only [Act.put, List.setIfInBounds_toArray, List.set_cons_zero, List.set_cons_succ, List.getElem_toArray, List.getElem_cons_zero, List.getElem_cons_succ])
            refine wpAnyH_take (i := 10) (v := undef) rfl (by kernel_rfl) (by kernel_rfl) (by kernel_rfl) (fun _ _ _ h => h) (Or.inr ⟨by rfl, rfl⟩) (by assumption) ?_
            (try simp only [Act.put, List.setIfInBounds_toArray, List.set_cons_zero, List.set_cons_succ, List.getElem_toArray, List.getElem_cons_zero, List.getElem_cons_succ])
            refine wpAnyH_take (i := 11) (v := undef) rfl (by kernel_rfl) (by kernel_rfl) (by kernel_rfl) (fun _ _ _ h => h) (Or.inr ⟨by rfl, rfl⟩) (by assumption) ?_
            (try simp only [Act.put, List.setIfInBounds_toArray, List.set_cons_zero, List.set_cons_succ, List.getElem_toArray, List.getElem_cons_zero, List.getElem_cons_succ])
            refine wpAnyH_take (i := 12) (v := ?_) rfl (by kernel_rfl) (by kernel_rfl) (by kernel_rfl) (fun _ _ _ h => h) (Or.inl ⟨by rfl, ?_⟩) (by assumption) ?_
            rotate_left
            · (intro w5 hw5; (try dsimp only at hw5); obtain ⟨⟨k0, k1, k2, k3⟩, ⟨k4, k5, k6⟩, k7, k8, k9⟩ := HQ.out w5 hw5; go_simp; (try with_reducible rfl))
            (try simp only [Act.put, List.setIfInBounds_toArray, List.set_cons_zero, List.set_cons_succ, List.getElem_toArray, List.getElem_cons_zero, List.getElem_cons_succ])
            refine wpAnyH_take (i := 13) (v := ?_) rfl (by kernel_rfl) (by kernel_rfl) (by kernel_rfl) (fun _ _ _ h => h) (Or.inl ⟨by rfl, ?_⟩) (by assumption) ?_
            rotate_left
            · (intro w5 hw5; (try dsimp only at hw5); obtain ⟨⟨k0, k1, k2, k3⟩, ⟨k4, k5, k6⟩, k7, k8, k9⟩ := HQ.out w5 hw5; go_simp; (try with_reducible rfl))
            (try simp only [Act.put, List.setIfInBounds_toArray, List.set_cons_zero, List.set_cons_succ, List.getElem_toArray, List.getElem_cons_zero, List.getElem_cons_succ])
            refine wpAnyH_take (i := 14) (v := undef) rfl (by kernel_rfl) (by kernel_rfl) (by kernel_rfl) (fun _ _ _ h => h) (Or.inr ⟨by rfl, rfl⟩) (by assumption) ?_
            (try simp only [Act.put, List.setIfInBounds_toArray, List.set_cons_zero, List.set_cons_succ, List.getElem_toArray, List.getElem_cons_zero, List.getElem_cons_succ])
            refine wpAnyH_take (i := 15) (v := undef) rfl (by kernel_rfl) (by kernel_rfl) (by kernel_rfl) (fun _ _ _ h => h) (Or.inr ⟨by rfl, rfl⟩) (by assumption) ?_
            (try simp only [Act.put, List.setIfInBounds_toArray, List.set_cons_zero, List.set_cons_succ, List.getElem_toArray, List.getElem_cons_zero, List.getElem_cons_succ])
            refine wpAnyH_take (i := 16) (v := undef) rfl (by kernel_rfl) (by kernel_rfl) (by kernel_rfl) (fun _ _ _ h => h) (Or.inr ⟨by rfl, rfl⟩) (by assumption) ?_
            (try simp only [Act.put, List.setIfInBounds_toArray, List.set_cons_zero, List.set_cons_succ, List.getElem_toArray, List.getElem_cons_zero, List.getElem_cons_succ])
            refine wpAnyH_take (i := 17) (v := undef) rfl (by kernel_rfl) (by kernel_rfl) (by kernel_rfl) (fun _ _ _ h => h) (Or.inr ⟨by rfl, rfl⟩) (by assumption) ?_
            (try simp only [Act.put, List.setIfInBounds_toArray, List.set_cons_zero, List.set_cons_succ, List.getElem_toArray, List.getElem_cons_zero, List.getElem_cons_succ])
            refine wpAnyH_take (i := 18) (v := undef) rfl (by kernel_rfl) (by kernel_rfl) (by kernel_rfl) (fun _ _ _ h => h) (Or.inr ⟨by rfl, rfl⟩) (by assumption) ?_
            (try simp only [Act.put, List.setIfInBounds_toArray, List.set_cons_zero, List.set_cons_succ, List.getElem_toArray, List.getElem_cons_zero, List.getElem_cons_succ])
            refine wpAnyH_take (i := 19) (v := ?_) rfl (by kernel_rfl) (by kernel_rfl) (by kernel_rfl) (fun _ _ _ h => h) (Or.inl ⟨by rfl, ?_⟩) (by assumption) ?_
            rotate_left
            · (intro w5 hw5; (try dsimp only at hw5); obtain ⟨⟨k0, k1, k2, k3⟩, ⟨k4, k5, k6⟩, k7, k8, k9⟩ := HQ.out w5 hw5; go_simp; (try with_reducible rfl))
            (try simp only [Act.put, List.setIfInBounds_toArray, List.set_cons_zero, List.set_cons_succ, List.getElem_toArray, List.getElem_cons_zero, List.getElem_cons_succ])
            refine wpAnyH_ready (rs := [20]) (by kernel_rfl) (by simp) ?_
            refine AllReadyH.cons rfl (fun K hK => ?_) AllReadyH.nil
            refine step_store_blk rfl _ _ _ rfl (w.heap.size + 1) rfl _ _ #[Value.int .i64 s.rev, Value.slice q1 s.jobs.length d1, Value.slice q2 s.nodes.length d2, Value.slice q3 s.leases.length d3] (HZ.out _ A0) rfl state_size rfl hone ?_
            refine hK.out _ _ ?_ (fun hHeld => ?_)
            · exact GrB.row G0 _
            clear hK K
            (try simp only [Act.put, List.setIfInBounds_toArray, List.set_cons_zero, List.set_cons_succ, List.getElem_toArray, List.getElem_cons_zero, List.getElem_cons_succ])
            refine wpAnyH_take (i := 21) (v := ?_) rfl (by kernel_rfl) (by kernel_rfl) (by kernel_rfl) (fun _ _ _ h => h) (Or.inl ⟨by rfl, ?_⟩) (by assumption) ?_
            rotate_left
            · (intro w5 hw5; (try dsimp only at hw5); obtain ⟨⟨k0, k1, k2, k3⟩, ⟨k4, k5, k6⟩, k7, k8, k9⟩ := HQ.out w5 hw5; go_simp; (try with_reducible rfl))
            (try simp only [Act.put, List.setIfInBounds_toArray, List.set_cons_zero, List.set_cons_succ, List.getElem_toArray, List.getElem_cons_zero, List.getElem_cons_succ])
            refine wpAnyH_take (i := 22) (v := ?_) rfl (by kernel_rfl) (by kernel_rfl) (by kernel_rfl) (fun _ _ _ h => h) (Or.inl ⟨by rfl, ?_⟩) (by assumption) ?_
            rotate_left
            · (intro w5 hw5; (try dsimp only at hw5); obtain ⟨⟨k0, k1, k2, k3⟩, ⟨k4, k5, k6⟩, k7, k8, k9⟩ := HQ.out w5 hw5; go_simp; (try with_reducible rfl))
            (try simp only [Act.put, List.setIfInBounds_toArray, List.set_cons_zero, List.set_cons_succ, List.getElem_toArray, List.getElem_cons_zero, List.getElem_cons_succ])
            refine wpAnyH_done (by kernel_rfl) ?_ _
            obtain ⟨f1, f2, f3⟩ := HFIN.out _ A0
            have F1 := Lib.hid f1
            have F2 := Lib.hid f2
            clear f1 f2
            go_wp2_with fail
            refine bodyPost_ret (results_cell_tmp2 rfl _ rfl f3 Tryd.underlying26 rfl state_size) rfl ?_
            obtain ⟨l1, l2, l3, l4⟩ := HD.out
            exact ⟨ds, _, 0, q1, q2, q3, d1, d2, d3, by rw [l1, l2, l3, l4]; rfl, F1.out, F2.out, by rw [HR.out, HDB2.out]; rfl⟩
          · cases xj
            · skip
              refine wp_region_held_drew (S := GrB w7 (w.heap.size + 1)) (by kernel_rfl) G0 (fun hHeld => ?_)
              refine wpAnyH_take (i := 0) (v := ?_) rfl (by kernel_rfl) (by kernel_rfl) (by kernel_rfl) (fun _ _ _ h => h) (Or.inl ⟨by rfl, ?_⟩) (by assumption) ?_
              rotate_left
              · (intro w5 hw5; (try dsimp only at hw5); obtain ⟨⟨k0, k1, k2, k3⟩, ⟨k4, k5, k6⟩, k7, k8, k9⟩ := HQ.out w5 hw5; go_simp; (try with_reducible rfl))
              (try simp only [Act.put, List.setIfInBounds_toArray, List.set_cons_zero, List.set_cons_succ, List.getElem_toArray, List.getElem_cons_zero, List.getElem_cons_succ])
              refine wpAnyH_take (i := 1) (v := ?_) rfl (by kernel_rfl) (by kernel_rfl) (by kernel_rfl) (fun _ _ _ h => h) (Or.inl ⟨by rfl, ?_⟩) (by assumption) ?_
              rotate_left
              · (intro w5 hw5; (try dsimp only at hw5); obtain ⟨⟨k0, k1, k2, k3⟩, ⟨k4, k5, k6⟩, k7, k8, k9⟩ := HQ.out w5 hw5; go_simp; (try with_reducible rfl))
              (try simp only [Act.put, List.setIfInBounds_toArray, List.set_cons_zero, List.set_cons_succ, List.getElem_toArray, List.getElem_cons_zero, List.getElem_cons_succ])
              refine wpAnyH_take (i := 2) (v := ?_) rfl (by kernel_rfl) (by kernel_rfl) (by kernel_rfl) (fun _ _ _ h => h) (Or.inl ⟨by rfl, ?_⟩) (by assumption) ?_
              rotate_left
              · (intro w5 hw5; (try dsimp only at hw5); obtain ⟨⟨k0, k1, k2, k3⟩, ⟨k4, k5, k6⟩, k7, k8, k9⟩ := HQ.out w5 hw5; go_simp; (try with_reducible rfl))
              (try simp only [Act.put, List.setIfInBounds_toArray, List.set_cons_zero, List.set_cons_succ, List.getElem_toArray, List.getElem_cons_zero, List.getElem_cons_succ])
              refine wpAnyH_take (i := 3) (v := ?_) rfl (by kernel_rfl) (by kernel_rfl) (by kernel_rfl) (fun _ _ _ h => h) (Or.inl ⟨by rfl, ?_⟩) (by assumption) ?_
              rotate_left
              · (intro w5 hw5; (try dsimp only at hw5); obtain ⟨⟨k0, k1, k2, k3⟩, ⟨k4, k5, k6⟩, k7, k8, k9⟩ := HQ.out w5 hw5; go_simp; (try with_reducible rfl))
              (try simp only [Act.put, List.setIfInBounds_toArray, List.set_cons_zero, List.set_cons_succ, List.getElem_toArray, List.getElem_cons_zero, List.getElem_cons_succ])
              refine wpAnyH_take (i := 4) (v := ?_) rfl (by kernel_rfl) (by kernel_rfl) (by kernel_rfl) (fun _ _ _ h => h) (Or.inl ⟨by rfl, ?_⟩) (by assumption) ?_
              rotate_left
              · (intro w5 hw5; (try dsimp only at hw5); obtain ⟨⟨k0, k1, k2, k3⟩, ⟨k4, k5, k6⟩, k7, k8, k9⟩ := HQ.out w5 hw5; go_simp; (try with_reducible rfl))
              (try simp only [Act.put, List.setIfInBounds_toArray, List.set_cons_zero, List.set_cons_succ, List.getElem_toArray, List.getElem_cons_zero, List.getElem_cons_succ])
              refine wpAnyH_take (i := 5) (v := ?_) rfl (by kernel_rfl) (by kernel_rfl) (by kernel_rfl) (fun _ _ _ h => h) (Or.inl ⟨by rfl, ?_⟩) (by assumption) ?_
              rotate_left
              · (intro w5 hw5; (try dsimp only at hw5); obtain ⟨⟨k0, k1, k2, k3⟩, ⟨k4, k5, k6⟩, k7, k8, k9⟩ := HQ.out w5 hw5; go_simp; (try with_reducible rfl))
              (try simp only [Act.put, List.setIfInBounds_toArray, List.set_cons_zero, List.set_cons_succ, List.getElem_toArray, List.getElem_cons_zero, List.getElem_cons_succ])
              refine wpAnyH_take (i := 6) (v := ?_) rfl (by kernel_rfl) (by kernel_rfl) (by kernel_rfl) (fun _ _ _ h => h) (Or.inl ⟨by rfl, ?_⟩) (by assumption) ?_
              rotate_left
              · (intro w5 hw5; (try dsimp only at hw5); obtain ⟨⟨k0, k1, k2, k3⟩, ⟨k4, k5, k6⟩, k7, k8, k9⟩ := HQ.out w5 hw5; go_simp; (try with_reducible rfl))
              (try simp only [Act.put, List.setIfInBounds_toArray, List.set_cons_zero, List.set_cons_succ, List.getElem_toArray, List.getElem_cons_zero, List.getElem_cons_succ])
              refine wpAnyH_take (i := 7) (v := ?_) rfl (by kernel_rfl) (by kernel_rfl) (by kernel_rfl) (fun _ _ _ h => h) (Or.inl ⟨by rfl, ?_⟩) (by assumption) ?_
              rotate_left
              · (intro w5 hw5; (try dsimp only at hw5); obtain ⟨⟨k0, k1, k2, k3⟩, ⟨k4, k5, k6⟩, k7, k8, k9⟩ := HQ.out w5 hw5; go_simp; (try with_reducible rfl))
              (try simp only [Act.put, List.setIfInBounds_toArray, List.set_cons_zero, List.set_cons_succ, List.getElem_toArray, List.getElem_cons_zero, List.getElem_cons_succ])
              refine wpAnyH_take (i := 8) (v := ?_) rfl (by kernel_rfl) (by kernel_rfl) (by kernel_rfl) (fun _ _ _ h => h) (Or.inl ⟨by rfl, ?_⟩) (by assumption) ?_
              rotate_left
              · (intro w5 hw5; (try dsimp only at hw5); obtain ⟨⟨k0, k1, k2, k3⟩, ⟨k4, k5, k6⟩, k7, k8, k9⟩ := HQ.out w5 hw5; go_simp; (try with_reducible rfl))
              (try simp only [Act.put, List.setIfInBounds_toArray, List.set_cons_zero, List.set_cons_succ, List.getElem_toArray, List.getElem_cons_zero, List.getElem_cons_succ])
              refine wpAnyH_take (i := 9) (v := ?_) rfl (by kernel_rfl) (by kernel_rfl) (by kernel_rfl) (fun _ _ _ h => h) (Or.inl ⟨by rfl, ?_⟩) (by assumption) ?_
              rotate_left
              · (intro w5 hw5; (try dsimp only at hw5); obtain ⟨⟨k0, k1, k2, k3⟩, ⟨k4, k5, k6⟩, k7, k8, k9⟩ := HQ.out w5 hw5; go_simp; (try with_reducible rfl))
              (try simp only [Act.put, List.setIfInBounds_toArray, List.set_cons_zero, List.set_cons_succ, List.getElem_toArray, List.getElem_cons_zero, List.getElem_cons_succ])
              refine wpAnyH_take (i := 10) (v := ?_) rfl (by kernel_rfl) (by kernel_rfl) (by kernel_rfl) (fun _ _ _ h => h) (Or.inl ⟨by rfl, ?_⟩) (by assumption) ?_
              rotate_left
              · (intro w5 hw5; (try dsimp only at hw5); obtain ⟨⟨k0, k1, k2, k3⟩, ⟨k4, k5, k6⟩, k7, k8, k9⟩ := HQ.out w5 hw5; go_simp; (try with_reducible rfl))
              (try simp only [Act.put, List.setIfInBounds_toArray, List.set_cons_zero, List.set_cons_succ, List.getElem_toArray, List.getElem_cons_zero, List.getElem_cons_succ])
              refine wpAnyH_ready (rs := [11]) (by kernel_rfl) (by simp) ?_
              refine AllReadyH.cons rfl (fun K hK => ?_) AllReadyH.nil
              go_simp
              refine (HJ.out _ A0).mono ?_
              rintro e w8 ⟨rfl, hb8⟩
              have A1 := Abv.step A0 hb8
              have G1 := GrB.more G0 hb8
              refine hK.out _ _ ?_ (fun hHeld => ?_)
              · exact G1
              clear hK K
              (try simp only [Act.put, List.setIfInBounds_toArray, List.set_cons_zero, List.set_cons_succ, List.getElem_toArray, List.getElem_cons_zero, List.getElem_cons_succ])
              refine wpAnyH_take (i := 12) (v := ?_) rfl (by kernel_rfl) (by kernel_rfl) (by kernel_rfl) (fun _ _ _ h => h) (Or.inl ⟨by rfl, ?_⟩) (by assumption) ?_
              rotate_left
              · (intro w5 hw5; (try dsimp only at hw5); obtain ⟨⟨k0, k1, k2, k3⟩, ⟨k4, k5, k6⟩, k7, k8, k9⟩ := HQ.out w5 hw5; go_simp; (try with_reducible rfl))
              (try simp only [Act.put, List.setIfInBounds_toArray, List.set_cons_zero, List.set_cons_succ, List.getElem_toArray, List.getElem_cons_zero, List.getElem_cons_succ])
              refine wpAnyH_take (i := 13) (v := ?_) rfl (by kernel_rfl) (by kernel_rfl) (by kernel_rfl) (fun _ _ _ h => h) (Or.inl ⟨by rfl, ?_⟩) (by assumption) ?_
              rotate_left
              · (intro w5 hw5; (try dsimp only at hw5); obtain ⟨⟨k0, k1, k2, k3⟩, ⟨k4, k5, k6⟩, k7, k8, k9⟩ := HQ.out w5 hw5; go_simp; (try with_reducible rfl))
              (try simp only [Act.put, List.setIfInBounds_toArray, List.set_cons_zero, List.set_cons_succ, List.getElem_toArray, List.getElem_cons_zero, List.getElem_cons_succ])
              refine wpAnyH_take (i := 14) (v := undef) rfl (by kernel_rfl) (by kernel_rfl) (by kernel_rfl) (fun _ _ _ h => h) (Or.inr ⟨by rfl, rfl⟩) (by assumption) ?_
              (try simp only [Act.put, List.setIfInBounds_toArray, List.set_cons_zero, List.set_cons_succ, List.getElem_toArray, List.getElem_cons_zero, List.getElem_cons_succ])
              refine wpAnyH_take (i := 15) (v := undef) rfl (by kernel_rfl) (by kernel_rfl) (by kernel_rfl) (fun _ _ _ h => h) (Or.inr ⟨by rfl, rfl⟩) (by assumption) ?_
              (try simp only [Act.put, List.setIfInBounds_toArray, List.set_cons_zero, List.set_cons_succ, List.getElem_toArray, List.getElem_cons_zero, List.getElem_cons_succ])
              refine wpAnyH_take (i := 16) (v := undef) rfl (by kernel_rfl) (by kernel_rfl) (by kernel_rfl) (fun _ _ _ h => h) (Or.inr ⟨by rfl, rfl⟩) (by assumption) ?_
              (try simp only [Act.put, List.setIfInBounds_toArray, List.set_cons_zero, List.set_cons_succ, List.getElem_toArray, List.getElem_cons_zero, List.getElem_cons_succ])
              refine wpAnyH_take (i := 17) (v := undef) rfl (by kernel_rfl) (by kernel_rfl) (by kernel_rfl) (fun _ _ _ h => h) (Or.inr ⟨by rfl, rfl⟩) (by assumption) ?_
              (try simp only [Act.put, List.setIfInBounds_toArray, List.set_cons_zero, List.set_cons_succ, List.getElem_toArray, List.getElem_cons_zero, List.getElem_cons_succ])
              refine wpAnyH_take (i := 18) (v := undef) rfl (by kernel_rfl) (by kernel_rfl) (by kernel_rfl) (fun _ _ _ h => h) (Or.inr ⟨by rfl, rfl⟩) (by assumption) ?_
              (try simp only [Act.put, List.setIfInBounds_toArray, List.set_cons_zero, List.set_cons_succ, List.getElem_toArray, List.getElem_cons_zero, List.getElem_cons_succ])
              refine wpAnyH_take (i := 19) (v := ?_) rfl (by kernel_rfl) (by kernel_rfl) (by kernel_rfl) (fun _ _ _ h => h) (Or.inl ⟨by rfl, ?_⟩) (by assumption) ?_
              rotate_left
              · (intro w5 hw5; (try dsimp only at hw5); obtain ⟨⟨k0, k1, k2, k3⟩, ⟨k4, k5, k6⟩, k7, k8, k9⟩ := HQ.out w5 hw5; go_simp; (try with_reducible rfl))
              (try simp only [Act.put, List.setIfInBounds_toArray, List.set_cons_zero, List.set_cons_succ, List.getElem_toArray, List.getElem_cons_zero, List.getElem_cons_succ])
              refine wpAnyH_ready (rs := [20]) (by kernel_rfl) (by simp) ?_
              refine AllReadyH.cons rfl (fun K hK => ?_) AllReadyH.nil
              refine step_store_blk rfl _ _ _ rfl (w.heap.size + 1) rfl _ _ #[Value.int .i64 s.rev, Value.slice q1 s.jobs.length d1, Value.slice q2 s.nodes.length d2, Value.slice q3 s.leases.length d3] (HZ.out _ A1) rfl state_size rfl hone ?_
              refine hK.out _ _ ?_ (fun hHeld => ?_)
              · exact GrB.row G1 _
              clear hK K
              (try simp only [Act.put, List.setIfInBounds_toArray, List.set_cons_zero, List.set_cons_succ, List.getElem_toArray, List.getElem_cons_zero, List.getElem_cons_succ])
              refine wpAnyH_take (i := 21) (v := ?_) rfl (by kernel_rfl) (by kernel_rfl) (by kernel_rfl) (fun _ _ _ h => h) (Or.inl ⟨by rfl, ?_⟩) (by assumption) ?_
              rotate_left
              · (intro w5 hw5; (try dsimp only at hw5); obtain ⟨⟨k0, k1, k2, k3⟩, ⟨k4, k5, k6⟩, k7, k8, k9⟩ := HQ.out w5 hw5; go_simp; (try with_reducible rfl))
              (try simp only [Act.put, List.setIfInBounds_toArray, List.set_cons_zero, List.set_cons_succ, List.getElem_toArray, List.getElem_cons_zero, List.getElem_cons_succ])
              refine wpAnyH_take (i := 22) (v := ?_) rfl (by kernel_rfl) (by kernel_rfl) (by kernel_rfl) (fun _ _ _ h => h) (Or.inl ⟨by rfl, ?_⟩) (by assumption) ?_
              rotate_left
              · (intro w5 hw5; (try dsimp only at hw5); obtain ⟨⟨k0, k1, k2, k3⟩, ⟨k4, k5, k6⟩, k7, k8, k9⟩ := HQ.out w5 hw5; go_simp; (try with_reducible rfl))
              (try simp only [Act.put, List.setIfInBounds_toArray, List.set_cons_zero, List.set_cons_succ, List.getElem_toArray, List.getElem_cons_zero, List.getElem_cons_succ])
              refine wpAnyH_done (by kernel_rfl) ?_ _
              obtain ⟨f1, f2, f3⟩ := HFIN.out _ A1
              have F1 := Lib.hid f1
              have F2 := Lib.hid f2
              clear f1 f2
              go_wp2_with fail
              refine bodyPost_ret (results_cell_tmp2 rfl _ rfl f3 Tryd.underlying26 rfl state_size) rfl ?_
              obtain ⟨l1, l2, l3, l4⟩ := HD.out
              exact ⟨ds, _, 0, q1, q2, q3, d1, d2, d3, by rw [l1, l2, l3, l4]; rfl, F1.out, F2.out, by rw [HR.out, HDB2.out]; rfl⟩
            · cases xn
              · skip
                refine wp_region_held_drew (S := GrB w7 (w.heap.size + 1)) (by kernel_rfl) G0 (fun hHeld => ?_)
                refine wpAnyH_take (i := 0) (v := ?_) rfl (by kernel_rfl) (by kernel_rfl) (by kernel_rfl) (fun _ _ _ h => h) (Or.inl ⟨by rfl, ?_⟩) (by assumption) ?_
                rotate_left
                · (intro w5 hw5; (try dsimp only at hw5); obtain ⟨⟨k0, k1, k2, k3⟩, ⟨k4, k5, k6⟩, k7, k8, k9⟩ := HQ.out w5 hw5; go_simp; (try with_reducible rfl))
                (try simp only [Act.put, List.setIfInBounds_toArray, List.set_cons_zero, List.set_cons_succ, List.getElem_toArray, List.getElem_cons_zero, List.getElem_cons_succ])
                refine wpAnyH_take (i := 1) (v := ?_) rfl (by kernel_rfl) (by kernel_rfl) (by kernel_rfl) (fun _ _ _ h => h) (Or.inl ⟨by rfl, ?_⟩) (by assumption) ?_
                rotate_left
                · (intro w5 hw5; (try dsimp only at hw5); obtain ⟨⟨k0, k1, k2, k3⟩, ⟨k4, k5, k6⟩, k7, k8, k9⟩ := HQ.out w5 hw5; go_simp; (try with_reducible rfl))
                (try simp only [Act.put, List.setIfInBounds_toArray, List.set_cons_zero, List.set_cons_succ, List.getElem_toArray, List.getElem_cons_zero, List.getElem_cons_succ])
                refine wpAnyH_take (i := 2) (v := ?_) rfl (by kernel_rfl) (by kernel_rfl) (by kernel_rfl) (fun _ _ _ h => h) (Or.inl ⟨by rfl, ?_⟩) (by assumption) ?_
                rotate_left
                · (intro w5 hw5; (try dsimp only at hw5); obtain ⟨⟨k0, k1, k2, k3⟩, ⟨k4, k5, k6⟩, k7, k8, k9⟩ := HQ.out w5 hw5; go_simp; (try with_reducible rfl))
                (try simp only [Act.put, List.setIfInBounds_toArray, List.set_cons_zero, List.set_cons_succ, List.getElem_toArray, List.getElem_cons_zero, List.getElem_cons_succ])
                refine wpAnyH_take (i := 3) (v := ?_) rfl (by kernel_rfl) (by kernel_rfl) (by kernel_rfl) (fun _ _ _ h => h) (Or.inl ⟨by rfl, ?_⟩) (by assumption) ?_
                rotate_left
                · (intro w5 hw5; (try dsimp only at hw5); obtain ⟨⟨k0, k1, k2, k3⟩, ⟨k4, k5, k6⟩, k7, k8, k9⟩ := HQ.out w5 hw5; go_simp; (try with_reducible rfl))
                (try simp only [Act.put, List.setIfInBounds_toArray, List.set_cons_zero, List.set_cons_succ, List.getElem_toArray, List.getElem_cons_zero, List.getElem_cons_succ])
                refine wpAnyH_take (i := 4) (v := ?_) rfl (by kernel_rfl) (by kernel_rfl) (by kernel_rfl) (fun _ _ _ h => h) (Or.inl ⟨by rfl, ?_⟩) (by assumption) ?_
                rotate_left
                · (intro w5 hw5; (try dsimp only at hw5); obtain ⟨⟨k0, k1, k2, k3⟩, ⟨k4, k5, k6⟩, k7, k8, k9⟩ := HQ.out w5 hw5; go_simp; (try with_reducible rfl))
                (try simp only [Act.put, List.setIfInBounds_toArray, List.set_cons_zero, List.set_cons_succ, List.getElem_toArray, List.getElem_cons_zero, List.getElem_cons_succ])
                refine wpAnyH_take (i := 5) (v := ?_) rfl (by kernel_rfl) (by kernel_rfl) (by kernel_rfl) (fun _ _ _ h => h) (Or.inl ⟨by rfl, ?_⟩) (by assumption) ?_
                rotate_left
                · (intro w5 hw5; (try dsimp only at hw5); obtain ⟨⟨k0, k1, k2, k3⟩, ⟨k4, k5, k6⟩, k7, k8, k9⟩ := HQ.out w5 hw5; go_simp; (try with_reducible rfl))
                (try simp only [Act.put, List.setIfInBounds_toArray, List.set_cons_zero, List.set_cons_succ, List.getElem_toArray, List.getElem_cons_zero, List.getElem_cons_succ])
                refine wpAnyH_take (i := 6) (v := ?_) rfl (by kernel_rfl) (by kernel_rfl) (by kernel_rfl) (fun _ _ _ h => h) (Or.inl ⟨by rfl, ?_⟩) (by assumption) ?_
                rotate_left
                · (intro w5 hw5; (try dsimp only at hw5); obtain ⟨⟨k0, k1, k2, k3⟩, ⟨k4, k5, k6⟩, k7, k8, k9⟩ := HQ.out w5 hw5; go_simp; (try with_reducible rfl))
                (try simp only [Act.put, List.setIfInBounds_toArray, List.set_cons_zero, List.set_cons_succ, List.getElem_toArray, List.getElem_cons_zero, List.getElem_cons_succ])
                refine wpAnyH_take (i := 7) (v := ?_) rfl (by kernel_rfl) (by kernel_rfl) (by kernel_rfl) (fun _ _ _ h => h) (Or.inl ⟨by rfl, ?_⟩) (by assumption) ?_
                rotate_left
                · (intro w5 hw5; (try dsimp only at hw5); obtain ⟨⟨k0, k1, k2, k3⟩, ⟨k4, k5, k6⟩, k7, k8, k9⟩ := HQ.out w5 hw5; go_simp; (try with_reducible rfl))
                (try simp only [Act.put, List.setIfInBounds_toArray, List.set_cons_zero, List.set_cons_succ, List.getElem_toArray, List.getElem_cons_zero, List.getElem_cons_succ])
                refine wpAnyH_take (i := 8) (v := ?_) rfl (by kernel_rfl) (by kernel_rfl) (by kernel_rfl) (fun _ _ _ h => h) (Or.inl ⟨by rfl, ?_⟩) (by assumption) ?_
                rotate_left
                · (intro w5 hw5; (try dsimp only at hw5); obtain ⟨⟨k0, k1, k2, k3⟩, ⟨k4, k5, k6⟩, k7, k8, k9⟩ := HQ.out w5 hw5; go_simp; (try with_reducible rfl))
                (try simp only [Act.put, List.setIfInBounds_toArray, List.set_cons_zero, List.set_cons_succ, List.getElem_toArray, List.getElem_cons_zero, List.getElem_cons_succ])
                refine wpAnyH_take (i := 9) (v := ?_) rfl (by kernel_rfl) (by kernel_rfl) (by kernel_rfl) (fun _ _ _ h => h) (Or.inl ⟨by rfl, ?_⟩) (by assumption) ?_
                rotate_left
                · (intro w5 hw5; (try dsimp only at hw5); obtain ⟨⟨k0, k1, k2, k3⟩, ⟨k4, k5, k6⟩, k7, k8, k9⟩ := HQ.out w5 hw5; go_simp; (try with_reducible rfl))
                (try simp only [Act.put, List.setIfInBounds_toArray, List.set_cons_zero, List.set_cons_succ, List.getElem_toArray, List.getElem_cons_zero, List.getElem_cons_succ])
                refine wpAnyH_take (i := 10) (v := ?_) rfl (by kernel_rfl) (by kernel_rfl) (by kernel_rfl) (fun _ _ _ h => h) (Or.inl ⟨by rfl, ?_⟩) (by assumption) ?_
                rotate_left
                · (intro w5 hw5; (try dsimp only at hw5); obtain ⟨⟨k0, k1, k2, k3⟩, ⟨k4, k5, k6⟩, k7, k8, k9⟩ := HQ.out w5 hw5; go_simp; (try with_reducible rfl))
                (try simp only [Act.put, List.setIfInBounds_toArray, List.set_cons_zero, List.set_cons_succ, List.getElem_toArray, List.getElem_cons_zero, List.getElem_cons_succ])
                refine wpAnyH_ready (rs := [11]) (by kernel_rfl) (by simp) ?_
                refine AllReadyH.cons rfl (fun K hK => ?_) AllReadyH.nil
                go_simp
                refine (HJ.out _ A0).mono ?_
                rintro e w8 ⟨rfl, hb8⟩
                have A1 := Abv.step A0 hb8
                have G1 := GrB.more G0 hb8
                refine hK.out _ _ ?_ (fun hHeld => ?_)
                · exact G1
                clear hK K
                (try simp only [Act.put, List.setIfInBounds_toArray, List.set_cons_zero, List.set_cons_succ, List.getElem_toArray, List.getElem_cons_zero, List.getElem_cons_succ])
                refine wpAnyH_take (i := 12) (v := ?_) rfl (by kernel_rfl) (by kernel_rfl) (by kernel_rfl) (fun _ _ _ h => h) (Or.inl ⟨by rfl, ?_⟩) (by assumption) ?_
                rotate_left
                · (intro w5 hw5; (try dsimp only at hw5); obtain ⟨⟨k0, k1, k2, k3⟩, ⟨k4, k5, k6⟩, k7, k8, k9⟩ := HQ.out w5 hw5; go_simp; (try with_reducible rfl))
                (try simp only [Act.put, List.setIfInBounds_toArray, List.set_cons_zero, List.set_cons_succ, List.getElem_toArray, List.getElem_cons_zero, List.getElem_cons_succ])
                refine wpAnyH_take (i := 13) (v := ?_) rfl (by kernel_rfl) (by kernel_rfl) (by kernel_rfl) (fun _ _ _ h => h) (Or.inl ⟨by rfl, ?_⟩) (by assumption) ?_
                rotate_left
                · (intro w5 hw5; (try dsimp only at hw5); obtain ⟨⟨k0, k1, k2, k3⟩, ⟨k4, k5, k6⟩, k7, k8, k9⟩ := HQ.out w5 hw5; go_simp; (try with_reducible rfl))
                (try simp only [Act.put, List.setIfInBounds_toArray, List.set_cons_zero, List.set_cons_succ, List.getElem_toArray, List.getElem_cons_zero, List.getElem_cons_succ])
                refine wpAnyH_take (i := 14) (v := ?_) rfl (by kernel_rfl) (by kernel_rfl) (by kernel_rfl) (fun _ _ _ h => h) (Or.inl ⟨by rfl, ?_⟩) (by assumption) ?_
                rotate_left
                · (intro w5 hw5; (try dsimp only at hw5); obtain ⟨⟨k0, k1, k2, k3⟩, ⟨k4, k5, k6⟩, k7, k8, k9⟩ := HQ.out w5 hw5; go_simp; (try with_reducible rfl))
                (try simp only [Act.put, List.setIfInBounds_toArray, List.set_cons_zero, List.set_cons_succ, List.getElem_toArray, List.getElem_cons_zero, List.getElem_cons_succ])
                refine wpAnyH_take (i := 15) (v := ?_) rfl (by kernel_rfl) (by kernel_rfl) (by kernel_rfl) (fun _ _ _ h => h) (Or.inl ⟨by rfl, ?_⟩) (by assumption) ?_
                rotate_left
                · (intro w5 hw5; (try dsimp only at hw5); obtain ⟨⟨k0, k1, k2, k3⟩, ⟨k4, k5, k6⟩, k7, k8, k9⟩ := HQ.out w5 hw5; go_simp; (try with_reducible rfl))
                (try simp only [Act.put, List.setIfInBounds_toArray, List.set_cons_zero, List.set_cons_succ, List.getElem_toArray, List.getElem_cons_zero, List.getElem_cons_succ])
                refine wpAnyH_take (i := 16) (v := ?_) rfl (by kernel_rfl) (by kernel_rfl) (by kernel_rfl) (fun _ _ _ h => h) (Or.inl ⟨by rfl, ?_⟩) (by assumption) ?_
                rotate_left
                · (intro w5 hw5; (try dsimp only at hw5); obtain ⟨⟨k0, k1, k2, k3⟩, ⟨k4, k5, k6⟩, k7, k8, k9⟩ := HQ.out w5 hw5; go_simp; (try with_reducible rfl))
                (try simp only [Act.put, List.setIfInBounds_toArray, List.set_cons_zero, List.set_cons_succ, List.getElem_toArray, List.getElem_cons_zero, List.getElem_cons_succ])
                refine wpAnyH_take (i := 17) (v := ?_) rfl (by kernel_rfl) (by kernel_rfl) (by kernel_rfl) (fun _ _ _ h => h) (Or.inl ⟨by rfl, ?_⟩) (by assumption) ?_
                rotate_left
                · (intro w5 hw5; (try dsimp only at hw5); obtain ⟨⟨k0, k1, k2, k3⟩, ⟨k4, k5, k6⟩, k7, k8, k9⟩ := HQ.out w5 hw5; go_simp; (try with_reducible rfl))
                (try simp only [Act.put, List.setIfInBounds_toArray, List.set_cons_zero, List.set_cons_succ, List.getElem_toArray, List.getElem_cons_zero, List.getElem_cons_succ])
                refine wpAnyH_ready (rs := [18]) (by kernel_rfl) (by simp) ?_
                refine AllReadyH.cons rfl (fun K hK => ?_) AllReadyH.nil
                go_simp
                refine (HN.out _ A1).mono ?_
                rintro e w9 ⟨rfl, hb9⟩
                have A2 := Abv.step A1 hb9
                have G2 := GrB.more G1 hb9
                refine hK.out _ _ ?_ (fun hHeld => ?_)
                · exact G2
                clear hK K
                (try simp only [Act.put, List.setIfInBounds_toArray, List.set_cons_zero, List.set_cons_succ, List.getElem_toArray, List.getElem_cons_zero, List.getElem_cons_succ])
                refine wpAnyH_take (i := 19) (v := ?_) rfl (by kernel_rfl) (by kernel_rfl) (by kernel_rfl) (fun _ _ _ h => h) (Or.inl ⟨by rfl, ?_⟩) (by assumption) ?_
                rotate_left
                · (intro w5 hw5; (try dsimp only at hw5); obtain ⟨⟨k0, k1, k2, k3⟩, ⟨k4, k5, k6⟩, k7, k8, k9⟩ := HQ.out w5 hw5; go_simp; (try with_reducible rfl))
                (try simp only [Act.put, List.setIfInBounds_toArray, List.set_cons_zero, List.set_cons_succ, List.getElem_toArray, List.getElem_cons_zero, List.getElem_cons_succ])
                refine wpAnyH_ready (rs := [20]) (by kernel_rfl) (by simp) ?_
                refine AllReadyH.cons rfl (fun K hK => ?_) AllReadyH.nil
                refine step_store_blk rfl _ _ _ rfl (w.heap.size + 1) rfl _ _ #[Value.int .i64 s.rev, Value.slice q1 s.jobs.length d1, Value.slice q2 s.nodes.length d2, Value.slice q3 s.leases.length d3] (HZ.out _ A2) rfl state_size rfl hone ?_
                refine hK.out _ _ ?_ (fun hHeld => ?_)
                · exact GrB.row G2 _
                clear hK K
                (try simp only [Act.put, List.setIfInBounds_toArray, List.set_cons_zero, List.set_cons_succ, List.getElem_toArray, List.getElem_cons_zero, List.getElem_cons_succ])
                refine wpAnyH_take (i := 21) (v := ?_) rfl (by kernel_rfl) (by kernel_rfl) (by kernel_rfl) (fun _ _ _ h => h) (Or.inl ⟨by rfl, ?_⟩) (by assumption) ?_
                rotate_left
                · (intro w5 hw5; (try dsimp only at hw5); obtain ⟨⟨k0, k1, k2, k3⟩, ⟨k4, k5, k6⟩, k7, k8, k9⟩ := HQ.out w5 hw5; go_simp; (try with_reducible rfl))
                (try simp only [Act.put, List.setIfInBounds_toArray, List.set_cons_zero, List.set_cons_succ, List.getElem_toArray, List.getElem_cons_zero, List.getElem_cons_succ])
                refine wpAnyH_take (i := 22) (v := ?_) rfl (by kernel_rfl) (by kernel_rfl) (by kernel_rfl) (fun _ _ _ h => h) (Or.inl ⟨by rfl, ?_⟩) (by assumption) ?_
                rotate_left
                · (intro w5 hw5; (try dsimp only at hw5); obtain ⟨⟨k0, k1, k2, k3⟩, ⟨k4, k5, k6⟩, k7, k8, k9⟩ := HQ.out w5 hw5; go_simp; (try with_reducible rfl))
                (try simp only [Act.put, List.setIfInBounds_toArray, List.set_cons_zero, List.set_cons_succ, List.getElem_toArray, List.getElem_cons_zero, List.getElem_cons_succ])
                refine wpAnyH_done (by kernel_rfl) ?_ _
                obtain ⟨f1, f2, f3⟩ := HFIN.out _ A2
                have F1 := Lib.hid f1
                have F2 := Lib.hid f2
                clear f1 f2
                go_wp2_with fail
                refine bodyPost_ret (results_cell_tmp2 rfl _ rfl f3 Tryd.underlying26 rfl state_size) rfl ?_
                obtain ⟨l1, l2, l3, l4⟩ := HD.out
                exact ⟨ds, _, 0, q1, q2, q3, d1, d2, d3, by rw [l1, l2, l3, l4]; rfl, F1.out, F2.out, by rw [HR.out, HDB2.out]; rfl⟩
              · skip
                refine wp_region_held_drew (S := GrB w7 (w.heap.size + 1)) (by kernel_rfl) G0 (fun hHeld => ?_)
                refine wpAnyH_take (i := 0) (v := ?_) rfl (by kernel_rfl) (by kernel_rfl) (by kernel_rfl) (fun _ _ _ h => h) (Or.inl ⟨by rfl, ?_⟩) (by assumption) ?_
                rotate_left
                · (intro w5 hw5; (try dsimp only at hw5); obtain ⟨⟨k0, k1, k2, k3⟩, ⟨k4, k5, k6⟩, k7, k8, k9⟩ := HQ.out w5 hw5; go_simp; (try with_reducible rfl))
                (try simp only [Act.put, List.setIfInBounds_toArray, List.set_cons_zero, List.set_cons_succ, List.getElem_toArray, List.getElem_cons_zero, List.getElem_cons_succ])
                refine wpAnyH_take (i := 1) (v := ?_) rfl (by kernel_rfl) (by kernel_rfl) (by kernel_rfl) (fun _ _ _ h => h) (Or.inl ⟨by rfl, ?_⟩) (by assumption) ?_
                rotate_left
                · (intro w5 hw5; (try dsimp only at hw5); obtain ⟨⟨k0, k1, k2, k3⟩, ⟨k4, k5, k6⟩, k7, k8, k9⟩ := HQ.out w5 hw5; go_simp; (try with_reducible rfl))
                (try simp only [Act.put, List.setIfInBounds_toArray, List.set_cons_zero, List.set_cons_succ, List.getElem_toArray, List.getElem_cons_zero, List.getElem_cons_succ])
                refine wpAnyH_take (i := 2) (v := ?_) rfl (by kernel_rfl) (by kernel_rfl) (by kernel_rfl) (fun _ _ _ h => h) (Or.inl ⟨by rfl, ?_⟩) (by assumption) ?_
                rotate_left
                · (intro w5 hw5; (try dsimp only at hw5); obtain ⟨⟨k0, k1, k2, k3⟩, ⟨k4, k5, k6⟩, k7, k8, k9⟩ := HQ.out w5 hw5; go_simp; (try with_reducible rfl))
                (try simp only [Act.put, List.setIfInBounds_toArray, List.set_cons_zero, List.set_cons_succ, List.getElem_toArray, List.getElem_cons_zero, List.getElem_cons_succ])
                refine wpAnyH_take (i := 3) (v := ?_) rfl (by kernel_rfl) (by kernel_rfl) (by kernel_rfl) (fun _ _ _ h => h) (Or.inl ⟨by rfl, ?_⟩) (by assumption) ?_
                rotate_left
                · (intro w5 hw5; (try dsimp only at hw5); obtain ⟨⟨k0, k1, k2, k3⟩, ⟨k4, k5, k6⟩, k7, k8, k9⟩ := HQ.out w5 hw5; go_simp; (try with_reducible rfl))
                (try simp only [Act.put, List.setIfInBounds_toArray, List.set_cons_zero, List.set_cons_succ, List.getElem_toArray, List.getElem_cons_zero, List.getElem_cons_succ])
                refine wpAnyH_take (i := 4) (v := ?_) rfl (by kernel_rfl) (by kernel_rfl) (by kernel_rfl) (fun _ _ _ h => h) (Or.inl ⟨by rfl, ?_⟩) (by assumption) ?_
                rotate_left
                · (intro w5 hw5; (try dsimp only at hw5); obtain ⟨⟨k0, k1, k2, k3⟩, ⟨k4, k5, k6⟩, k7, k8, k9⟩ := HQ.out w5 hw5; go_simp; (try with_reducible rfl))
                (try simp only [Act.put, List.setIfInBounds_toArray, List.set_cons_zero, List.set_cons_succ, List.getElem_toArray, List.getElem_cons_zero, List.getElem_cons_succ])
                refine wpAnyH_take (i := 5) (v := ?_) rfl (by kernel_rfl) (by kernel_rfl) (by kernel_rfl) (fun _ _ _ h => h) (Or.inl ⟨by rfl, ?_⟩) (by assumption) ?_
                rotate_left
                · (intro w5 hw5; (try dsimp only at hw5); obtain ⟨⟨k0, k1, k2, k3⟩, ⟨k4, k5, k6⟩, k7, k8, k9⟩ := HQ.out w5 hw5; go_simp; (try with_reducible rfl))
                (try simp only [Act.put, List.setIfInBounds_toArray, List.set_cons_zero, List.set_cons_succ, List.getElem_toArray, List.getElem_cons_zero, List.getElem_cons_succ])
                refine wpAnyH_take (i := 6) (v := ?_) rfl (by kernel_rfl) (by kernel_rfl) (by kernel_rfl) (fun _ _ _ h => h) (Or.inl ⟨by rfl, ?_⟩) (by assumption) ?_
                rotate_left
                · (intro w5 hw5; (try dsimp only at hw5); obtain ⟨⟨k0, k1, k2, k3⟩, ⟨k4, k5, k6⟩, k7, k8, k9⟩ := HQ.out w5 hw5; go_simp; (try with_reducible rfl))
                (try simp only [Act.put, List.setIfInBounds_toArray, List.set_cons_zero, List.set_cons_succ, List.getElem_toArray, List.getElem_cons_zero, List.getElem_cons_succ])
                refine wpAnyH_take (i := 7) (v := ?_) rfl (by kernel_rfl) (by kernel_rfl) (by kernel_rfl) (fun _ _ _ h => h) (Or.inl ⟨by rfl, ?_⟩) (by assumption) ?_
                rotate_left
                · (intro w5 hw5; (try dsimp only at hw5); obtain ⟨⟨k0, k1, k2, k3⟩, ⟨k4, k5, k6⟩, k7, k8, k9⟩ := HQ.out w5 hw5; go_simp; (try with_reducible rfl))
                (try simp only [Act.put, List.setIfInBounds_toArray, List.set_cons_zero, List.set_cons_succ, List.getElem_toArray, List.getElem_cons_zero, List.getElem_cons_succ])
                refine wpAnyH_take (i := 8) (v := ?_) rfl (by kernel_rfl) (by kernel_rfl) (by kernel_rfl) (fun _ _ _ h => h) (Or.inl ⟨by rfl, ?_⟩) (by assumption) ?_
                rotate_left
                · (intro w5 hw5; (try dsimp only at hw5); obtain ⟨⟨k0, k1, k2, k3⟩, ⟨k4, k5, k6⟩, k7, k8, k9⟩ := HQ.out w5 hw5; go_simp; (try with_reducible rfl))
                (try simp only [Act.put, List.setIfInBounds_toArray, List.set_cons_zero, List.set_cons_succ, List.getElem_toArray, List.getElem_cons_zero, List.getElem_cons_succ])
                refine wpAnyH_take (i := 9) (v := ?_) rfl (by kernel_rfl) (by kernel_rfl) (by kernel_rfl) (fun _ _ _ h => h) (Or.inl ⟨by rfl, ?_⟩) (by assumption) ?_
                rotate_left
                · (intro w5 hw5; (try dsimp only at hw5); obtain ⟨⟨k0, k1, k2, k3⟩, ⟨k4, k5, k6⟩, k7, k8, k9⟩ := HQ.out w5 hw5; go_simp; (try with_reducible rfl))
                (try simp only [Act.put, List.setIfInBounds_toArray, List.set_cons_zero, List.set_cons_succ, List.getElem_toArray, List.getElem_cons_zero, List.getElem_cons_succ])
                refine wpAnyH_take (i := 10) (v := ?_) rfl (by kernel_rfl) (by kernel_rfl) (by kernel_rfl) (fun _ _ _ h => h) (Or.inl ⟨by rfl, ?_⟩) (by assumption) ?_
                rotate_left
                · (intro w5 hw5; (try dsimp only at hw5); obtain ⟨⟨k0, k1, k2, k3⟩, ⟨k4, k5, k6⟩, k7, k8, k9⟩ := HQ.out w5 hw5; go_simp; (try with_reducible rfl))
                (try simp only [Act.put, List.setIfInBounds_toArray, List.set_cons_zero, List.set_cons_succ, List.getElem_toArray, List.getElem_cons_zero, List.getElem_cons_succ])
                refine wpAnyH_ready (rs := [11]) (by kernel_rfl) (by simp) ?_
                refine AllReadyH.cons rfl (fun K hK => ?_) AllReadyH.nil
                go_simp
                refine (HJ.out _ A0).mono ?_
                rintro e w8 ⟨rfl, hb8⟩
                have A1 := Abv.step A0 hb8
                have G1 := GrB.more G0 hb8
                refine hK.out _ _ ?_ (fun hHeld => ?_)
                · exact G1
                clear hK K
                (try simp only [Act.put, List.setIfInBounds_toArray, List.set_cons_zero, List.set_cons_succ, List.getElem_toArray, List.getElem_cons_zero, List.getElem_cons_succ])
                refine wpAnyH_take (i := 12) (v := ?_) rfl (by kernel_rfl) (by kernel_rfl) (by kernel_rfl) (fun _ _ _ h => h) (Or.inl ⟨by rfl, ?_⟩) (by assumption) ?_
                rotate_left
                · (intro w5 hw5; (try dsimp only at hw5); obtain ⟨⟨k0, k1, k2, k3⟩, ⟨k4, k5, k6⟩, k7, k8, k9⟩ := HQ.out w5 hw5; go_simp; (try with_reducible rfl))
                (try simp only [Act.put, List.setIfInBounds_toArray, List.set_cons_zero, List.set_cons_succ, List.getElem_toArray, List.getElem_cons_zero, List.getElem_cons_succ])
                refine wpAnyH_take (i := 13) (v := ?_) rfl (by kernel_rfl) (by kernel_rfl) (by kernel_rfl) (fun _ _ _ h => h) (Or.inl ⟨by rfl, ?_⟩) (by assumption) ?_
                rotate_left
                · (intro w5 hw5; (try dsimp only at hw5); obtain ⟨⟨k0, k1, k2, k3⟩, ⟨k4, k5, k6⟩, k7, k8, k9⟩ := HQ.out w5 hw5; go_simp; (try with_reducible rfl))
                (try simp only [Act.put, List.setIfInBounds_toArray, List.set_cons_zero, List.set_cons_succ, List.getElem_toArray, List.getElem_cons_zero, List.getElem_cons_succ])
                refine wpAnyH_take (i := 14) (v := ?_) rfl (by kernel_rfl) (by kernel_rfl) (by kernel_rfl) (fun _ _ _ h => h) (Or.inl ⟨by rfl, ?_⟩) (by assumption) ?_
                rotate_left
                · (intro w5 hw5; (try dsimp only at hw5); obtain ⟨⟨k0, k1, k2, k3⟩, ⟨k4, k5, k6⟩, k7, k8, k9⟩ := HQ.out w5 hw5; go_simp; (try with_reducible rfl))
                (try simp only [Act.put, List.setIfInBounds_toArray, List.set_cons_zero, List.set_cons_succ, List.getElem_toArray, List.getElem_cons_zero, List.getElem_cons_succ])
                refine wpAnyH_take (i := 15) (v := ?_) rfl (by kernel_rfl) (by kernel_rfl) (by kernel_rfl) (fun _ _ _ h => h) (Or.inl ⟨by rfl, ?_⟩) (by assumption) ?_
                rotate_left
                · (intro w5 hw5; (try dsimp only at hw5); obtain ⟨⟨k0, k1, k2, k3⟩, ⟨k4, k5, k6⟩, k7, k8, k9⟩ := HQ.out w5 hw5; go_simp; (try with_reducible rfl))
                (try simp only [Act.put, List.setIfInBounds_toArray, List.set_cons_zero, List.set_cons_succ, List.getElem_toArray, List.getElem_cons_zero, List.getElem_cons_succ])
                refine wpAnyH_take (i := 16) (v := ?_) rfl (by kernel_rfl) (by kernel_rfl) (by kernel_rfl) (fun _ _ _ h => h) (Or.inl ⟨by rfl, ?_⟩) (by assumption) ?_
                rotate_left
                · (intro w5 hw5; (try dsimp only at hw5); obtain ⟨⟨k0, k1, k2, k3⟩, ⟨k4, k5, k6⟩, k7, k8, k9⟩ := HQ.out w5 hw5; go_simp; (try with_reducible rfl))
                (try simp only [Act.put, List.setIfInBounds_toArray, List.set_cons_zero, List.set_cons_succ, List.getElem_toArray, List.getElem_cons_zero, List.getElem_cons_succ])
                refine wpAnyH_take (i := 17) (v := ?_) rfl (by kernel_rfl) (by kernel_rfl) (by kernel_rfl) (fun _ _ _ h => h) (Or.inl ⟨by rfl, ?_⟩) (by assumption) ?_
                rotate_left
                · (intro w5 hw5; (try dsimp only at hw5); obtain ⟨⟨k0, k1, k2, k3⟩, ⟨k4, k5, k6⟩, k7, k8, k9⟩ := HQ.out w5 hw5; go_simp; (try with_reducible rfl))
                (try simp only [Act.put, List.setIfInBounds_toArray, List.set_cons_zero, List.set_cons_succ, List.getElem_toArray, List.getElem_cons_zero, List.getElem_cons_succ])
                refine wpAnyH_ready (rs := [18]) (by kernel_rfl) (by simp) ?_
                refine AllReadyH.cons rfl (fun K hK => ?_) AllReadyH.nil
                go_simp
                refine (HN.out _ A1).mono ?_
                rintro e w9 ⟨rfl, hb9⟩
                have A2 := Abv.step A1 hb9
                have G2 := GrB.more G1 hb9
                refine hK.out _ _ ?_ (fun hHeld => ?_)
                · exact G2
                clear hK K
                (try simp only [Act.put, List.setIfInBounds_toArray, List.set_cons_zero, List.set_cons_succ, List.getElem_toArray, List.getElem_cons_zero, List.getElem_cons_succ])
                refine wpAnyH_take (i := 19) (v := ?_) rfl (by kernel_rfl) (by kernel_rfl) (by kernel_rfl) (fun _ _ _ h => h) (Or.inl ⟨by rfl, ?_⟩) (by assumption) ?_
                rotate_left
                · (intro w5 hw5; (try dsimp only at hw5); obtain ⟨⟨k0, k1, k2, k3⟩, ⟨k4, k5, k6⟩, k7, k8, k9⟩ := HQ.out w5 hw5; go_simp; (try with_reducible rfl))
                (try simp only [Act.put, List.setIfInBounds_toArray, List.set_cons_zero, List.set_cons_succ, List.getElem_toArray, List.getElem_cons_zero, List.getElem_cons_succ])
                refine wpAnyH_ready (rs := [20]) (by kernel_rfl) (by simp) ?_
                refine AllReadyH.cons rfl (fun K hK => ?_) AllReadyH.nil
                refine step_store_blk rfl _ _ _ rfl (w.heap.size + 1) rfl _ _ #[Value.int .i64 s.rev, Value.slice q1 s.jobs.length d1, Value.slice q2 s.nodes.length d2, Value.slice q3 s.leases.length d3] (HZ.out _ A2) rfl state_size rfl hone ?_
                refine hK.out _ _ ?_ (fun hHeld => ?_)
                · exact GrB.row G2 _
                clear hK K
                (try simp only [Act.put, List.setIfInBounds_toArray, List.set_cons_zero, List.set_cons_succ, List.getElem_toArray, List.getElem_cons_zero, List.getElem_cons_succ])
                refine wpAnyH_take (i := 21) (v := ?_) rfl (by kernel_rfl) (by kernel_rfl) (by kernel_rfl) (fun _ _ _ h => h) (Or.inl ⟨by rfl, ?_⟩) (by assumption) ?_
                rotate_left
                · (intro w5 hw5; (try dsimp only at hw5); obtain ⟨⟨k0, k1, k2, k3⟩, ⟨k4, k5, k6⟩, k7, k8, k9⟩ := HQ.out w5 hw5; go_simp; (try with_reducible rfl))
                (try simp only [Act.put, List.setIfInBounds_toArray, List.set_cons_zero, List.set_cons_succ, List.getElem_toArray, List.getElem_cons_zero, List.getElem_cons_succ])
                refine wpAnyH_take (i := 22) (v := ?_) rfl (by kernel_rfl) (by kernel_rfl) (by kernel_rfl) (fun _ _ _ h => h) (Or.inl ⟨by rfl, ?_⟩) (by assumption) ?_
                rotate_left
                · (intro w5 hw5; (try dsimp only at hw5); obtain ⟨⟨k0, k1, k2, k3⟩, ⟨k4, k5, k6⟩, k7, k8, k9⟩ := HQ.out w5 hw5; go_simp; (try with_reducible rfl))
                (try simp only [Act.put, List.setIfInBounds_toArray, List.set_cons_zero, List.set_cons_succ, List.getElem_toArray, List.getElem_cons_zero, List.getElem_cons_succ])
                refine wpAnyH_done (by kernel_rfl) ?_ _
                obtain ⟨f1, f2, f3⟩ := HFIN.out _ A2
                have F1 := Lib.hid f1
                have F2 := Lib.hid f2
                clear f1 f2
                go_wp2_with fail
                refine bodyPost_ret (results_cell_tmp2 rfl _ rfl f3 Tryd.underlying26 rfl state_size) rfl ?_
                obtain ⟨l1, l2, l3, l4⟩ := HD.out
                exact ⟨ds, _, 0, q1, q2, q3, d1, d2, d3, by rw [l1, l2, l3, l4]; rfl, F1.out, F2.out, by rw [HR.out, HDB2.out]; rfl⟩
end Go.Proofs.YtejdhcipmkaboaaDoor

/-
  The contract of up.Down.
-/
set_option linter.unusedVariables false
set_option linter.unusedSimpArgs false
namespace Go.Proofs.YtejdhcipmkaboaaDoor
open Go.RowKit
theorem upDown_any (s : St) (k : Int) (p1 p2 p3 : Option Addr) (c1 c2 c3 : Nat) (w : World) (hm : StM w w.heap.size p1 p2 p3 s) (hz : StSz s) (hT : Tabs w) :
    Calls Tryd.prog 25 #[.agg #[.int .i64 s.rev, .slice p1 s.jobs.length c1, .slice p2 s.nodes.length c2, .slice p3 s.leases.length c3], .int .i64 k] w fun e w' => DownPost w (downR s k) e w' := by
  by_cases hc : checkE s = 0
  · rcases Int.lt_or_le k 1 with h1 | h1
    · exact down_low s k p1 p2 p3 c1 c2 c3 w hm hz hT hc h1
    · rcases Int.lt_or_le 3 k with h3 | h3
      · exact down_high s k p1 p2 p3 c1 c2 c3 w hm hz hT hc h3
      · obtain rfl | rfl | rfl : k = 1 ∨ k = 2 ∨ k = 3 := by omega
        · exact down_1 s p1 p2 p3 c1 c2 c3 w hm hz hT hc
        · exact down_2 s p1 p2 p3 c1 c2 c3 w hm hz hT hc
        · exact down_3 s p1 p2 p3 c1 c2 c3 w hm hz hT hc
  · exact down_bad s k p1 p2 p3 c1 c2 c3 w hm hz hT hc
end Go.Proofs.YtejdhcipmkaboaaDoor
