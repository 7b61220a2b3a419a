/-
  Several texts in one: EqS, DelM, DeltaEq, Betw, DelD, DifferW.
-/
import Derived.Test.YtkommikehbbhbaaGreatDoorPkEq
import Derived.Test.YtkommikehbbhbaaGreatDoorPkStrs
import Derived.Test.YtkommikehbbhbaaGreatDoorPkDelA
import Derived.Test.YtkommikehbbhbaaGreatDoorPkStateB
import Derived.Test.YtkommikehbbhbaaGreatDoorPkOwn
import Derived.Deep.DeepCutAuto
import Derived.Test.YtkommikehbbhbaaGreatDoorPkStateA
import Derived.LoopN
import Derived.Deep.RegionLaw
/-
  The contract of the reference's Eq at strings.
-/
set_option linter.unusedVariables false
set_option linter.unusedSimpArgs false
namespace Go.Proofs.YtkommikehbbhbaaGreatDoor
open Go.RowKit
theorem at_one {w : World} {a : Addr} {v : Value} {k : Nat} (h : At w (a.add (k * 1)) [v]) : w.cell? (a.add k) = some v := by
  have := h 0 v rfl
  rw [Nat.mul_one] at this
  rwa [show (a.add k).add 0 = a.add k from by unfold Addr.add; simp] at this
set_option maxHeartbeats 2000000 in
set_option maxRecDepth 100000 in
theorem eqS_any (p q : Option Addr) (c c' : Nat) (l m : List ByteArray) (w : World) (hp : Elts w w.heap.size 1 p (l.map rowS)) (hq : Elts w w.heap.size 1 q (m.map rowS)) (hl : l.length ≤ 4611686018427387904) (hm : m.length ≤ 4611686018427387904) :
    Calls Tryz.prog 41 #[.slice p l.length c, .slice q m.length c'] w fun e w' => e = .returned (.bool (decide (l = m))) ∧ Below w.heap.size w w' := by
  by_cases hlen : l.length = m.length
  · have hb : ((l.length : Int) != (m.length : Int)) = false := by rw [hlen]; simp
    have h1 : l.length ≤ m.length := by omega
    have h2 : m.length ≤ l.length := by omega
    have HLEN := Lib.hid hlen
    clear hlen
    go_enter Tryz.func41, Tryz.ntmps41
    go_wp2_with fail
    go_loopw [14] (fun i wr => ∃ k : Nat, k ≤ l.length ∧ i = .int .i64 k ∧ Below w.heap.size w wr ∧ Hid (l.take k = m.take k)) (fun i _ => l.length - (intOf i).toNat)
    case atStart => exact ⟨0, Nat.zero_le _, rfl, Below.refl _ _, (show _ = _ from rfl)⟩
    case round =>
      obtain ⟨k, hk, rfl, hbr, HT⟩ := hrel
      by_cases hlt : k < l.length
      · have hkm : k < m.length := by omega
        have hx : l[k]? = some l[k] := List.getElem?_eq_getElem hlt
        have hy : m[k]? = some m[k] := List.getElem?_eq_getElem hkm
        generalize l[k] = x at *
        generalize m[k] = y at *
        obtain ⟨a, rfl, hab, _, hat⟩ := (hp.below hbr).at_ (k := k) (r := rowS x) (by rw [List.getElem?_map, hx]; rfl)
        obtain ⟨b, rfl, hbb, _, hbt⟩ := (hq.below hbr).at_ (k := k) (r := rowS y) (by rw [List.getElem?_map, hy]; rfl)
        have e1 : wr.cell? (a.add k) = some (.string x) := at_one hat
        have e2 : wr.cell? (b.add k) = some (.string y) := at_one hbt
        have hk0 : (0 : Int) ≤ (k : Int) := by omega
        have hk1 : (k : Int) < (l.length : Int) := by omega
        have hk2 : (k : Int) < (m.length : Int) := by omega
        have HX := Lib.hid hx
        have HY := Lib.hid hy
        clear hx hy hat hbt
        by_cases hxy : x = y
        · have htb : (x.toList == y.toList) = true := by rw [hxy]; simp
          have HN := Lib.hid (take_snoc_eq HT.out HX.out (hxy ▸ HY.out))
          clear hxy HX HY HT
          go_wp2_with fail
          go_roundw
          case rel => exact ⟨k + 1, by omega, by go_num, hbr, HN.out⟩
          case measure => simp [intOf]; omega
        · have htb : (x.toList == y.toList) = false := by rw [beq_eq_false_iff_ne]; exact fun e => hxy (toList_inj e)
          have HN := Lib.hid (take_eq_ne hxy HX.out HY.out)
          clear hxy HX HY HT
          go_wp2_with fail
          go_ret
          exact ⟨by rw [decide_eq_false HN.out]; rfl, hbr⟩
      · obtain rfl : k = l.length := by omega
        have HE := Lib.hid (show l = m from by have := HT.out; rwa [List.take_length, HLEN.out, List.take_length] at this)
        clear HT
        go_wp2_with fail
        go_ret
        exact ⟨by rw [decide_eq_true HE.out]; rfl, hbr⟩
  · have hb : ((l.length : Int) != (m.length : Int)) = true := by rw [bne_iff_ne]; omega
    have HN := Lib.hid (show l ≠ m from fun e => hlen (by rw [e]))
    clear hlen
    go_enter Tryz.func41, Tryz.ntmps41
    go_wp2_with fail
    go_ret
    exact ⟨by rw [decide_eq_false HN.out]; rfl, Below.refl _ _⟩
end Go.Proofs.YtkommikehbbhbaaGreatDoor

/-
  Deltas in memory.
-/
set_option linter.unusedVariables false
set_option linter.unusedSimpArgs false
namespace Go.Proofs.YtkommikehbbhbaaGreatDoor
open Go.RowKit
structure DelM (w : World) (B : Nat) (p1 p2 p3 p4 p5 p6 : Option Addr) (d : DeltaD) : Prop where
  j : Elts w B 5 p1 (d.jobs.map rowJ)
  n : Elts w B 3 p2 (d.nodes.map rowN)
  l : Elts w B 3 p3 (d.leases.map rowL)
  gj : Elts w B 1 p4 (d.gj.map rowS)
  gn : Elts w B 1 p5 (d.gn.map rowS)
  gl : Elts w B 1 p6 (d.gl.map rowS)
structure DelOwn (w : World) (base : Nat) (p1 p2 p3 p4 p5 p6 : Option Addr) (c1 c2 c3 c4 c5 c6 : Nat) (d : DeltaD) : Prop where
  j : OwnR w base 44 5 p1 c1 (d.jobs.map rowJ)
  n : OwnR w base 46 3 p2 c2 (d.nodes.map rowN)
  l : OwnR w base 48 3 p3 c3 (d.leases.map rowL)
  gj : OwnR w base 9 1 p4 c4 (d.gj.map rowS)
  gn : OwnR w base 9 1 p5 c5 (d.gn.map rowS)
  gl : OwnR w base 9 1 p6 c6 (d.gl.map rowS)
/-- The lists of a delta are no longer than this machine's ints. -/
structure DelSz (d : DeltaD) : Prop where
  j : d.jobs.length ≤ 8796093022208
  n : d.nodes.length ≤ 8796093022208
  l : d.leases.length ≤ 8796093022208
  gj : d.gj.length ≤ 8796093022208
  gn : d.gn.length ≤ 8796093022208
  gl : d.gl.length ≤ 8796093022208
section
variable {w w' : World} {B base : Nat} {p1 p2 p3 p4 p5 p6 : Option Addr} {c1 c2 c3 c4 c5 c6 : Nat} {d : DeltaD}
theorem DelOwn.m (h : DelOwn w base p1 p2 p3 p4 p5 p6 c1 c2 c3 c4 c5 c6 d) : DelM w w.heap.size p1 p2 p3 p4 p5 p6 d := ⟨h.j.elts, h.n.elts, h.l.elts, h.gj.elts, h.gn.elts, h.gl.elts⟩
theorem DelOwn.below (h : DelOwn w base p1 p2 p3 p4 p5 p6 c1 c2 c3 c4 c5 c6 d) (hb : Below w.heap.size w w') : DelOwn w' base p1 p2 p3 p4 p5 p6 c1 c2 c3 c4 c5 c6 d := ⟨h.j.below hb, h.n.below hb, h.l.below hb, h.gj.below hb, h.gn.below hb, h.gl.below hb⟩
theorem DelOwn.lower {b : Nat} (h : DelOwn w base p1 p2 p3 p4 p5 p6 c1 c2 c3 c4 c5 c6 d) (hb : b ≤ base) : DelOwn w b p1 p2 p3 p4 p5 p6 c1 c2 c3 c4 c5 c6 d := ⟨h.j.lower hb, h.n.lower hb, h.l.lower hb, h.gj.lower hb, h.gn.lower hb, h.gl.lower hb⟩
theorem DelM.below (h : DelM w B p1 p2 p3 p4 p5 p6 d) (hb : Below B w w') : DelM w' B p1 p2 p3 p4 p5 p6 d := ⟨h.j.below hb, h.n.below hb, h.l.below hb, h.gj.below hb, h.gn.below hb, h.gl.below hb⟩
theorem DelM.more {b : Nat} (h : DelM w B p1 p2 p3 p4 p5 p6 d) (hb : B ≤ b) : DelM w b p1 p2 p3 p4 p5 p6 d := ⟨h.j.more hb, h.n.more hb, h.l.more hb, h.gj.more hb, h.gn.more hb, h.gl.more hb⟩
theorem DelM.nil' (w : World) (B : Nat) (a b : Int) : DelM w B none none none none none none ⟨a, b, [], [], [], [], [], []⟩ := ⟨Elts.nil_, Elts.nil_, Elts.nil_, Elts.nil_, Elts.nil_, Elts.nil_⟩
theorem DelM.nil (w : World) (B : Nat) : DelM w B none none none none none none noD := ⟨Elts.nil_, Elts.nil_, Elts.nil_, Elts.nil_, Elts.nil_, Elts.nil_⟩
end
theorem OwnR.cell_ {w : World} {base c size : Nat} {E : TypeId} {p : Option Addr} {rows : List (List Value)} (h : OwnR w base E size p c rows) {a : Addr} (ha : a.block < base) (u : Value) : OwnR (w.setCell a u) base E size p c rows := ⟨h.1, ownsRow_setCell_below h.2 ha u⟩
theorem OwnR.row_ {w : World} {base c size g : Nat} {E : TypeId} {p : Option Addr} {rows : List (List Value)} (h : OwnR w base E size p c rows) (ha : g < base) (cs : Array Value) : OwnR (w.setRow g cs) base E size p c rows :=
  ⟨h.1, World.ownsRow.kept (row := some g) h.2 (growR w g cs) (.inr (fun h0 => by have := (World.ownsRow.lt h.2 g h0).1; omega))⟩
theorem zero_delta_lit (W : World) : (zeroValue 30).run Tryz.prog W = .ok (.agg #[Value.int .i64 0, Value.int .i64 0, Value.slice none 0 0, Value.slice none 0 0, Value.slice none 0 0, Value.slice none 0 0, Value.slice none 0 0, Value.slice none 0 0]) W := by kernel_rfl
theorem delta_size : (Tryz.prog.info? 30).map (·.size) = some 8 := by kernel_rfl
theorem one_d8 (a b : Int) (r1 r2 r3 r4 r5 r6 : Option Addr) (n1 n2 n3 n4 n5 n6 e1 e2 e3 e4 e5 e6 : Nat) : (#[Value.int .i64 a, Value.int .i64 b, Value.slice r1 n1 e1, Value.slice r2 n2 e2, Value.slice r3 n3 e3, Value.slice r4 n4 e4, Value.slice r5 n5 e5, Value.slice r6 n6 e6] : Array Value).all (·.oneCell') = true := by simp [Value.oneCell']
end Go.Proofs.YtkommikehbbhbaaGreatDoor

/-
  The contract of the reference's DeltaEq: are two deltas the same?
-/
set_option linter.unusedVariables false
set_option linter.unusedSimpArgs false
namespace Go.Proofs.YtkommikehbbhbaaGreatDoor
open Go.RowKit
set_option maxHeartbeats 8000000 in
set_option maxRecDepth 100000 in
theorem deltaEq_any (a b : DeltaD) (p1 p2 p3 p4 p5 p6 q1 q2 q3 q4 q5 q6 : Option Addr) (c1 c2 c3 c4 c5 c6 d1 d2 d3 d4 d5 d6 : Nat) (w : World) (ha : DelM w w.heap.size p1 p2 p3 p4 p5 p6 a) (hb : DelM w w.heap.size q1 q2 q3 q4 q5 q6 b) (za : DelSz a) (zb : DelSz b) :
    Calls Tryz.prog 18 #[.agg #[Value.int .i64 a.frm, Value.int .i64 a.upto, Value.slice p1 a.jobs.length c1, Value.slice p2 a.nodes.length c2, Value.slice p3 a.leases.length c3, Value.slice p4 a.gj.length c4, Value.slice p5 a.gn.length c5, Value.slice p6 a.gl.length c6], .agg #[Value.int .i64 b.frm, Value.int .i64 b.upto, Value.slice q1 b.jobs.length d1, Value.slice q2 b.nodes.length d2, Value.slice q3 b.leases.length d3, Value.slice q4 b.gj.length d4, Value.slice q5 b.gn.length d5, Value.slice q6 b.gl.length d6]] w fun e w' => e = .returned (.bool (decide (a = b))) ∧ Below w.heap.size w w' := by
  have H2 := Lib.hid (fun (W : World) (hW : Below w.heap.size w W) => eqJ_any p1 q1 c1 d1 a.jobs b.jobs W ((ha.j.below hW).more hW.size) ((hb.j.below hW).more hW.size) (by have := za.j; omega) (by have := zb.j; omega))
  have H3 := Lib.hid (fun (W : World) (hW : Below w.heap.size w W) => eqN_any p2 q2 c2 d2 a.nodes b.nodes W ((ha.n.below hW).more hW.size) ((hb.n.below hW).more hW.size) (by have := za.n; omega) (by have := zb.n; omega))
  have H4 := Lib.hid (fun (W : World) (hW : Below w.heap.size w W) => eqL_any p3 q3 c3 d3 a.leases b.leases W ((ha.l.below hW).more hW.size) ((hb.l.below hW).more hW.size) (by have := za.l; omega) (by have := zb.l; omega))
  have H5 := Lib.hid (fun (W : World) (hW : Below w.heap.size w W) => eqS_any p4 q4 c4 d4 a.gj b.gj W ((ha.gj.below hW).more hW.size) ((hb.gj.below hW).more hW.size) (by have := za.gj; omega) (by have := zb.gj; omega))
  have H6 := Lib.hid (fun (W : World) (hW : Below w.heap.size w W) => eqS_any p5 q5 c5 d5 a.gn b.gn W ((ha.gn.below hW).more hW.size) ((hb.gn.below hW).more hW.size) (by have := za.gn; omega) (by have := zb.gn; omega))
  have H7 := Lib.hid (fun (W : World) (hW : Below w.heap.size w W) => eqS_any p6 q6 c6 d6 a.gl b.gl W ((ha.gl.below hW).more hW.size) ((hb.gl.below hW).more hW.size) (by have := za.gl; omega) (by have := zb.gl; omega))
  have bA := (Blk.new w 30 #[Value.int .i64 a.frm, Value.int .i64 a.upto, Value.slice p1 a.jobs.length c1, Value.slice p2 a.nodes.length c2, Value.slice p3 a.leases.length c3, Value.slice p4 a.gj.length c4, Value.slice p5 a.gn.length c5, Value.slice p6 a.gl.length c6]).alloc (.cells #[Value.int .i64 b.frm, Value.int .i64 b.upto, Value.slice q1 b.jobs.length d1, Value.slice q2 b.nodes.length d2, Value.slice q3 b.leases.length d3, Value.slice q4 b.gj.length d4, Value.slice q5 b.gn.length d5, Value.slice q6 b.gl.length d6] 30)
  have bB : Blk ((w.alloc (.cells #[Value.int .i64 a.frm, Value.int .i64 a.upto, Value.slice p1 a.jobs.length c1, Value.slice p2 a.nodes.length c2, Value.slice p3 a.leases.length c3, Value.slice p4 a.gj.length c4, Value.slice p5 a.gn.length c5, Value.slice p6 a.gl.length c6] 30)).alloc (.cells #[Value.int .i64 b.frm, Value.int .i64 b.upto, Value.slice q1 b.jobs.length d1, Value.slice q2 b.nodes.length d2, Value.slice q3 b.leases.length d3, Value.slice q4 b.gj.length d4, Value.slice q5 b.gn.length d5, Value.slice q6 b.gl.length d6] 30)) (w.heap.size + 1) 30 #[Value.int .i64 b.frm, Value.int .i64 b.upto, Value.slice q1 b.jobs.length d1, Value.slice q2 b.nodes.length d2, Value.slice q3 b.leases.length d3, Value.slice q4 b.gj.length d4, Value.slice q5 b.gn.length d5, Value.slice q6 b.gl.length d6] := by have := Blk.new (w.alloc (.cells #[Value.int .i64 a.frm, Value.int .i64 a.upto, Value.slice p1 a.jobs.length c1, Value.slice p2 a.nodes.length c2, Value.slice p3 a.leases.length c3, Value.slice p4 a.gj.length c4, Value.slice p5 a.gn.length c5, Value.slice p6 a.gl.length c6] 30)) 30 #[Value.int .i64 b.frm, Value.int .i64 b.upto, Value.slice q1 b.jobs.length d1, Value.slice q2 b.nodes.length d2, Value.slice q3 b.leases.length d3, Value.slice q4 b.gj.length d4, Value.slice q5 b.gn.length d5, Value.slice q6 b.gl.length d6]; simpa using this
  have hB0 : Below w.heap.size w ((w.alloc (.cells #[Value.int .i64 a.frm, Value.int .i64 a.upto, Value.slice p1 a.jobs.length c1, Value.slice p2 a.nodes.length c2, Value.slice p3 a.leases.length c3, Value.slice p4 a.gj.length c4, Value.slice p5 a.gn.length c5, Value.slice p6 a.gl.length c6] 30)).alloc (.cells #[Value.int .i64 b.frm, Value.int .i64 b.upto, Value.slice q1 b.jobs.length d1, Value.slice q2 b.nodes.length d2, Value.slice q3 b.leases.length d3, Value.slice q4 b.gj.length d4, Value.slice q5 b.gn.length d5, Value.slice q6 b.gl.length d6] 30)) := ((Below.refl _ _).alloc (Nat.le_refl _) _).alloc (by simp) _
  have HV := Lib.hid (show decide (a = b) = (decide (a.frm = b.frm) && decide (a.upto = b.upto) && decide (a.jobs = b.jobs) && decide (a.nodes = b.nodes) && decide (a.leases = b.leases) && decide (a.gj = b.gj) && decide (a.gn = b.gn) && decide (a.gl = b.gl)) from by
    cases a; cases b; simp only [DeltaD.mk.injEq, Bool.decide_and, Bool.and_assoc])
  have HR0 := Lib.hid (show ((a.frm : Int) == b.frm) = decide (a.frm = b.frm) from by rw [Bool.eq_iff_iff]; simp)
  have HR1 := Lib.hid (show ((a.upto : Int) == b.upto) = decide (a.upto = b.upto) from by rw [Bool.eq_iff_iff]; simp)
  clear ha hb za zb
  generalize hx0 : decide (a.frm = b.frm) = x0 at *
  generalize hx1 : decide (a.upto = b.upto) = x1 at *
  generalize hx2 : decide (a.jobs = b.jobs) = x2 at *
  generalize hx3 : decide (a.nodes = b.nodes) = x3 at *
  generalize hx4 : decide (a.leases = b.leases) = x4 at *
  generalize hx5 : decide (a.gj = b.gj) = x5 at *
  generalize hx6 : decide (a.gn = b.gn) = x6 at *
  generalize hx7 : decide (a.gl = b.gl) = x7 at *
  clear hx0 hx1 hx2 hx3 hx4 hx5 hx6 hx7
  cases x0
  · have r0 := HR0.out
    go_enter Tryz.func18, Tryz.ntmps18
    go_wp2_with fail
    go_ret
    exact ⟨by rw [HV.out]; rfl, hB0⟩
  · cases x1
    · have r0 := HR0.out
      have r1 := HR1.out
      go_enter Tryz.func18, Tryz.ntmps18
      go_wp2_with fail
      go_ret
      exact ⟨by rw [HV.out]; rfl, hB0⟩
    · cases x2
      · have r0 := HR0.out
        have r1 := HR1.out
        go_enter Tryz.func18, Tryz.ntmps18
        go_wp2_with fail
        generalize (w.alloc _).alloc _ = W at *
        refine (H2.out _ hB0).mono ?_
        rintro e w2 ⟨rfl, hb2⟩
        have hB2 := hB0.trans (hb2.mono hB0.size)
        go_wp2_with fail
        go_ret
        exact ⟨by rw [HV.out]; rfl, hB2⟩
      · cases x3
        · have r0 := HR0.out
          have r1 := HR1.out
          go_enter Tryz.func18, Tryz.ntmps18
          go_wp2_with fail
          generalize (w.alloc _).alloc _ = W at *
          refine (H2.out _ hB0).mono ?_
          rintro e w2 ⟨rfl, hb2⟩
          have hB2 := hB0.trans (hb2.mono hB0.size)
          have bA2 := bA.below hb2 bA.lt
          have bB2 := bB.below hb2 bB.lt
          clear bA bB
          have e1 : w2.cell? ⟨w.heap.size, 3, none⟩ = some (.slice p2 a.nodes.length c2) := bA2.cell 3
          have e2 : w2.cell? ⟨w.heap.size + 1, 3, none⟩ = some (.slice q2 b.nodes.length d2) := bB2.cell 3
          go_wp2_with fail
          refine (H3.out _ hB2).mono ?_
          rintro e w3 ⟨rfl, hb3⟩
          have hB3 := hB2.trans (hb3.mono hB2.size)
          clear e1 e2
          go_wp2_with fail
          go_ret
          exact ⟨by rw [HV.out]; rfl, hB3⟩
        · cases x4
          · have r0 := HR0.out
            have r1 := HR1.out
            go_enter Tryz.func18, Tryz.ntmps18
            go_wp2_with fail
            generalize (w.alloc _).alloc _ = W at *
            refine (H2.out _ hB0).mono ?_
            rintro e w2 ⟨rfl, hb2⟩
            have hB2 := hB0.trans (hb2.mono hB0.size)
            have bA2 := bA.below hb2 bA.lt
            have bB2 := bB.below hb2 bB.lt
            clear bA bB
            have e1 : w2.cell? ⟨w.heap.size, 3, none⟩ = some (.slice p2 a.nodes.length c2) := bA2.cell 3
            have e2 : w2.cell? ⟨w.heap.size + 1, 3, none⟩ = some (.slice q2 b.nodes.length d2) := bB2.cell 3
            go_wp2_with fail
            refine (H3.out _ hB2).mono ?_
            rintro e w3 ⟨rfl, hb3⟩
            have hB3 := hB2.trans (hb3.mono hB2.size)
            have bA3 := bA2.below hb3 bA2.lt
            have bB3 := bB2.below hb3 bB2.lt
            clear bA2 bB2 e1 e2
            have e1 : w3.cell? ⟨w.heap.size, 4, none⟩ = some (.slice p3 a.leases.length c3) := bA3.cell 4
            have e2 : w3.cell? ⟨w.heap.size + 1, 4, none⟩ = some (.slice q3 b.leases.length d3) := bB3.cell 4
            go_wp2_with fail
            refine (H4.out _ hB3).mono ?_
            rintro e w4 ⟨rfl, hb4⟩
            have hB4 := hB3.trans (hb4.mono hB3.size)
            clear e1 e2
            go_wp2_with fail
            go_ret
            exact ⟨by rw [HV.out]; rfl, hB4⟩
          · cases x5
            · have r0 := HR0.out
              have r1 := HR1.out
              go_enter Tryz.func18, Tryz.ntmps18
              go_wp2_with fail
              generalize (w.alloc _).alloc _ = W at *
              refine (H2.out _ hB0).mono ?_
              rintro e w2 ⟨rfl, hb2⟩
              have hB2 := hB0.trans (hb2.mono hB0.size)
              have bA2 := bA.below hb2 bA.lt
              have bB2 := bB.below hb2 bB.lt
              clear bA bB
              have e1 : w2.cell? ⟨w.heap.size, 3, none⟩ = some (.slice p2 a.nodes.length c2) := bA2.cell 3
              have e2 : w2.cell? ⟨w.heap.size + 1, 3, none⟩ = some (.slice q2 b.nodes.length d2) := bB2.cell 3
              go_wp2_with fail
              refine (H3.out _ hB2).mono ?_
              rintro e w3 ⟨rfl, hb3⟩
              have hB3 := hB2.trans (hb3.mono hB2.size)
              have bA3 := bA2.below hb3 bA2.lt
              have bB3 := bB2.below hb3 bB2.lt
              clear bA2 bB2 e1 e2
              have e1 : w3.cell? ⟨w.heap.size, 4, none⟩ = some (.slice p3 a.leases.length c3) := bA3.cell 4
              have e2 : w3.cell? ⟨w.heap.size + 1, 4, none⟩ = some (.slice q3 b.leases.length d3) := bB3.cell 4
              go_wp2_with fail
              refine (H4.out _ hB3).mono ?_
              rintro e w4 ⟨rfl, hb4⟩
              have hB4 := hB3.trans (hb4.mono hB3.size)
              have bA4 := bA3.below hb4 bA3.lt
              have bB4 := bB3.below hb4 bB3.lt
              clear bA3 bB3 e1 e2
              have e1 : w4.cell? ⟨w.heap.size, 5, none⟩ = some (.slice p4 a.gj.length c4) := bA4.cell 5
              have e2 : w4.cell? ⟨w.heap.size + 1, 5, none⟩ = some (.slice q4 b.gj.length d4) := bB4.cell 5
              go_wp2_with fail
              refine (H5.out _ hB4).mono ?_
              rintro e w5 ⟨rfl, hb5⟩
              have hB5 := hB4.trans (hb5.mono hB4.size)
              clear e1 e2
              go_wp2_with fail
              go_ret
              exact ⟨by rw [HV.out]; rfl, hB5⟩
            · cases x6
              · have r0 := HR0.out
                have r1 := HR1.out
                go_enter Tryz.func18, Tryz.ntmps18
                go_wp2_with fail
                generalize (w.alloc _).alloc _ = W at *
                refine (H2.out _ hB0).mono ?_
                rintro e w2 ⟨rfl, hb2⟩
                have hB2 := hB0.trans (hb2.mono hB0.size)
                have bA2 := bA.below hb2 bA.lt
                have bB2 := bB.below hb2 bB.lt
                clear bA bB
                have e1 : w2.cell? ⟨w.heap.size, 3, none⟩ = some (.slice p2 a.nodes.length c2) := bA2.cell 3
                have e2 : w2.cell? ⟨w.heap.size + 1, 3, none⟩ = some (.slice q2 b.nodes.length d2) := bB2.cell 3
                go_wp2_with fail
                refine (H3.out _ hB2).mono ?_
                rintro e w3 ⟨rfl, hb3⟩
                have hB3 := hB2.trans (hb3.mono hB2.size)
                have bA3 := bA2.below hb3 bA2.lt
                have bB3 := bB2.below hb3 bB2.lt
                clear bA2 bB2 e1 e2
                have e1 : w3.cell? ⟨w.heap.size, 4, none⟩ = some (.slice p3 a.leases.length c3) := bA3.cell 4
                have e2 : w3.cell? ⟨w.heap.size + 1, 4, none⟩ = some (.slice q3 b.leases.length d3) := bB3.cell 4
                go_wp2_with fail
                refine (H4.out _ hB3).mono ?_
                rintro e w4 ⟨rfl, hb4⟩
                have hB4 := hB3.trans (hb4.mono hB3.size)
                have bA4 := bA3.below hb4 bA3.lt
                have bB4 := bB3.below hb4 bB3.lt
                clear bA3 bB3 e1 e2
                have e1 : w4.cell? ⟨w.heap.size, 5, none⟩ = some (.slice p4 a.gj.length c4) := bA4.cell 5
                have e2 : w4.cell? ⟨w.heap.size + 1, 5, none⟩ = some (.slice q4 b.gj.length d4) := bB4.cell 5
                go_wp2_with fail
                refine (H5.out _ hB4).mono ?_
                rintro e w5 ⟨rfl, hb5⟩
                have hB5 := hB4.trans (hb5.mono hB4.size)
                have bA5 := bA4.below hb5 bA4.lt
                have bB5 := bB4.below hb5 bB4.lt
                clear bA4 bB4 e1 e2
                have e1 : w5.cell? ⟨w.heap.size, 6, none⟩ = some (.slice p5 a.gn.length c5) := bA5.cell 6
                have e2 : w5.cell? ⟨w.heap.size + 1, 6, none⟩ = some (.slice q5 b.gn.length d5) := bB5.cell 6
                go_wp2_with fail
                refine (H6.out _ hB5).mono ?_
                rintro e w6 ⟨rfl, hb6⟩
                have hB6 := hB5.trans (hb6.mono hB5.size)
                clear e1 e2
                go_wp2_with fail
                go_ret
                exact ⟨by rw [HV.out]; rfl, hB6⟩
              · cases x7
                · have r0 := HR0.out
                  have r1 := HR1.out
                  go_enter Tryz.func18, Tryz.ntmps18
                  go_wp2_with fail
                  generalize (w.alloc _).alloc _ = W at *
                  refine (H2.out _ hB0).mono ?_
                  rintro e w2 ⟨rfl, hb2⟩
                  have hB2 := hB0.trans (hb2.mono hB0.size)
                  have bA2 := bA.below hb2 bA.lt
                  have bB2 := bB.below hb2 bB.lt
                  clear bA bB
                  have e1 : w2.cell? ⟨w.heap.size, 3, none⟩ = some (.slice p2 a.nodes.length c2) := bA2.cell 3
                  have e2 : w2.cell? ⟨w.heap.size + 1, 3, none⟩ = some (.slice q2 b.nodes.length d2) := bB2.cell 3
                  go_wp2_with fail
                  refine (H3.out _ hB2).mono ?_
                  rintro e w3 ⟨rfl, hb3⟩
                  have hB3 := hB2.trans (hb3.mono hB2.size)
                  have bA3 := bA2.below hb3 bA2.lt
                  have bB3 := bB2.below hb3 bB2.lt
                  clear bA2 bB2 e1 e2
                  have e1 : w3.cell? ⟨w.heap.size, 4, none⟩ = some (.slice p3 a.leases.length c3) := bA3.cell 4
                  have e2 : w3.cell? ⟨w.heap.size + 1, 4, none⟩ = some (.slice q3 b.leases.length d3) := bB3.cell 4
                  go_wp2_with fail
                  refine (H4.out _ hB3).mono ?_
                  rintro e w4 ⟨rfl, hb4⟩
                  have hB4 := hB3.trans (hb4.mono hB3.size)
                  have bA4 := bA3.below hb4 bA3.lt
                  have bB4 := bB3.below hb4 bB3.lt
                  clear bA3 bB3 e1 e2
                  have e1 : w4.cell? ⟨w.heap.size, 5, none⟩ = some (.slice p4 a.gj.length c4) := bA4.cell 5
                  have e2 : w4.cell? ⟨w.heap.size + 1, 5, none⟩ = some (.slice q4 b.gj.length d4) := bB4.cell 5
                  go_wp2_with fail
                  refine (H5.out _ hB4).mono ?_
                  rintro e w5 ⟨rfl, hb5⟩
                  have hB5 := hB4.trans (hb5.mono hB4.size)
                  have bA5 := bA4.below hb5 bA4.lt
                  have bB5 := bB4.below hb5 bB4.lt
                  clear bA4 bB4 e1 e2
                  have e1 : w5.cell? ⟨w.heap.size, 6, none⟩ = some (.slice p5 a.gn.length c5) := bA5.cell 6
                  have e2 : w5.cell? ⟨w.heap.size + 1, 6, none⟩ = some (.slice q5 b.gn.length d5) := bB5.cell 6
                  go_wp2_with fail
                  refine (H6.out _ hB5).mono ?_
                  rintro e w6 ⟨rfl, hb6⟩
                  have hB6 := hB5.trans (hb6.mono hB5.size)
                  have bA6 := bA5.below hb6 bA5.lt
                  have bB6 := bB5.below hb6 bB5.lt
                  clear bA5 bB5 e1 e2
                  have e1 : w6.cell? ⟨w.heap.size, 7, none⟩ = some (.slice p6 a.gl.length c6) := bA6.cell 7
                  have e2 : w6.cell? ⟨w.heap.size + 1, 7, none⟩ = some (.slice q6 b.gl.length d6) := bB6.cell 7
                  go_wp2_with fail
                  refine (H7.out _ hB6).mono ?_
                  rintro e w7 ⟨rfl, hb7⟩
                  have hB7 := hB6.trans (hb7.mono hB6.size)
                  clear e1 e2
                  go_wp2_with fail
                  go_ret
                  exact ⟨by rw [HV.out]; rfl, hB7⟩
                · have r0 := HR0.out
                  have r1 := HR1.out
                  go_enter Tryz.func18, Tryz.ntmps18
                  go_wp2_with fail
                  generalize (w.alloc _).alloc _ = W at *
                  refine (H2.out _ hB0).mono ?_
                  rintro e w2 ⟨rfl, hb2⟩
                  have hB2 := hB0.trans (hb2.mono hB0.size)
                  have bA2 := bA.below hb2 bA.lt
                  have bB2 := bB.below hb2 bB.lt
                  clear bA bB
                  have e1 : w2.cell? ⟨w.heap.size, 3, none⟩ = some (.slice p2 a.nodes.length c2) := bA2.cell 3
                  have e2 : w2.cell? ⟨w.heap.size + 1, 3, none⟩ = some (.slice q2 b.nodes.length d2) := bB2.cell 3
                  go_wp2_with fail
                  refine (H3.out _ hB2).mono ?_
                  rintro e w3 ⟨rfl, hb3⟩
                  have hB3 := hB2.trans (hb3.mono hB2.size)
                  have bA3 := bA2.below hb3 bA2.lt
                  have bB3 := bB2.below hb3 bB2.lt
                  clear bA2 bB2 e1 e2
                  have e1 : w3.cell? ⟨w.heap.size, 4, none⟩ = some (.slice p3 a.leases.length c3) := bA3.cell 4
                  have e2 : w3.cell? ⟨w.heap.size + 1, 4, none⟩ = some (.slice q3 b.leases.length d3) := bB3.cell 4
                  go_wp2_with fail
                  refine (H4.out _ hB3).mono ?_
                  rintro e w4 ⟨rfl, hb4⟩
                  have hB4 := hB3.trans (hb4.mono hB3.size)
                  have bA4 := bA3.below hb4 bA3.lt
                  have bB4 := bB3.below hb4 bB3.lt
                  clear bA3 bB3 e1 e2
                  have e1 : w4.cell? ⟨w.heap.size, 5, none⟩ = some (.slice p4 a.gj.length c4) := bA4.cell 5
                  have e2 : w4.cell? ⟨w.heap.size + 1, 5, none⟩ = some (.slice q4 b.gj.length d4) := bB4.cell 5
                  go_wp2_with fail
                  refine (H5.out _ hB4).mono ?_
                  rintro e w5 ⟨rfl, hb5⟩
                  have hB5 := hB4.trans (hb5.mono hB4.size)
                  have bA5 := bA4.below hb5 bA4.lt
                  have bB5 := bB4.below hb5 bB4.lt
                  clear bA4 bB4 e1 e2
                  have e1 : w5.cell? ⟨w.heap.size, 6, none⟩ = some (.slice p5 a.gn.length c5) := bA5.cell 6
                  have e2 : w5.cell? ⟨w.heap.size + 1, 6, none⟩ = some (.slice q5 b.gn.length d5) := bB5.cell 6
                  go_wp2_with fail
                  refine (H6.out _ hB5).mono ?_
                  rintro e w6 ⟨rfl, hb6⟩
                  have hB6 := hB5.trans (hb6.mono hB5.size)
                  have bA6 := bA5.below hb6 bA5.lt
                  have bB6 := bB5.below hb6 bB5.lt
                  clear bA5 bB5 e1 e2
                  have e1 : w6.cell? ⟨w.heap.size, 7, none⟩ = some (.slice p6 a.gl.length c6) := bA6.cell 7
                  have e2 : w6.cell? ⟨w.heap.size + 1, 7, none⟩ = some (.slice q6 b.gl.length d6) := bB6.cell 7
                  go_wp2_with fail
                  refine (H7.out _ hB6).mono ?_
                  rintro e w7 ⟨rfl, hb7⟩
                  have hB7 := hB6.trans (hb7.mono hB6.size)
                  clear e1 e2
                  go_wp2_with fail
                  go_ret
                  exact ⟨by rw [HV.out]; rfl, hB7⟩
end Go.Proofs.YtkommikehbbhbaaGreatDoor

/-
  The contract of delta.Between.
-/
set_option linter.unusedVariables false
set_option linter.unusedSimpArgs false
namespace Go.Proofs.YtkommikehbbhbaaGreatDoor
open Go.RowKit

def BetwPost (w : World) (d : DeltaD) (e : Ending) (w' : World) : Prop :=
  ∃ p1 p2 p3 p4 p5 p6 c1 c2 c3 c4 c5 c6, e = .returned (.agg #[Value.int .i64 d.frm, Value.int .i64 d.upto, Value.slice p1 d.jobs.length c1, Value.slice p2 d.nodes.length c2, Value.slice p3 d.leases.length c3, Value.slice p4 d.gj.length c4, Value.slice p5 d.gn.length c5, Value.slice p6 d.gl.length c6]) ∧ DelOwn w' w.heap.size p1 p2 p3 p4 p5 p6 c1 c2 c3 c4 c5 c6 d ∧ Below w.heap.size w w'
set_option maxHeartbeats 8000000 in
set_option maxRecDepth 100000 in
theorem betw_any (a b : St) (p1 p2 p3 q1 q2 q3 : Option Addr) (c1 c2 c3 d1 d2 d3 : Nat) (w : World) (ha : StM w w.heap.size p1 p2 p3 a) (hb : StM w w.heap.size q1 q2 q3 b) (zj : a.jobs.length ≤ 1000 ∧ b.jobs.length ≤ 1000) (zn : a.nodes.length ≤ 1000 ∧ b.nodes.length ≤ 1000) (zl : a.leases.length ≤ 1000 ∧ b.leases.length ≤ 1000) :
    Calls Tryz.prog 42 #[.agg #[Value.int .i64 a.rev, Value.slice p1 a.jobs.length c1, Value.slice p2 a.nodes.length c2, Value.slice p3 a.leases.length c3], .agg #[Value.int .i64 b.rev, Value.slice q1 b.jobs.length d1, Value.slice q2 b.nodes.length d2, Value.slice q3 b.leases.length d3]] w fun e w' => BetwPost w (betw a b) e w' := by
  have hzd := zero_delta_lit
  have HJ := Lib.hid (fun (W : World) (hW : Below w.heap.size w W) => differJ_any p1 q1 c1 d1 a.jobs b.jobs W ((ha.j.below hW).more hW.size) ((hb.j.below hW).more hW.size) zj.1 zj.2)
  have HN := Lib.hid (fun (W : World) (hW : Below w.heap.size w W) => differN_any p2 q2 c2 d2 a.nodes b.nodes W ((ha.n.below hW).more hW.size) ((hb.n.below hW).more hW.size) zn.1 zn.2)
  have HL := Lib.hid (fun (W : World) (hW : Below w.heap.size w W) => differL_any p3 q3 c3 d3 a.leases b.leases W ((ha.l.below hW).more hW.size) ((hb.l.below hW).more hW.size) zl.1 zl.2)
  have hB0 : Below w.heap.size w (((w.alloc (.cells #[Value.int .i64 a.rev, Value.slice p1 a.jobs.length c1, Value.slice p2 a.nodes.length c2, Value.slice p3 a.leases.length c3] 26)).alloc (.cells #[Value.int .i64 b.rev, Value.slice q1 b.jobs.length d1, Value.slice q2 b.nodes.length d2, Value.slice q3 b.leases.length d3] 26)).alloc (.cells #[Value.int .i64 0, Value.int .i64 0, Value.slice none 0 0, Value.slice none 0 0, Value.slice none 0 0, Value.slice none 0 0, Value.slice none 0 0, Value.slice none 0 0] 30)) := (((Below.refl _ _).alloc (Nat.le_refl _) _).alloc (by simp) _).alloc (by simp; omega) _
  have bA := ((Blk.new w 26 #[Value.int .i64 a.rev, Value.slice p1 a.jobs.length c1, Value.slice p2 a.nodes.length c2, Value.slice p3 a.leases.length c3]).alloc (.cells #[Value.int .i64 b.rev, Value.slice q1 b.jobs.length d1, Value.slice q2 b.nodes.length d2, Value.slice q3 b.leases.length d3] 26)).alloc (.cells #[Value.int .i64 0, Value.int .i64 0, Value.slice none 0 0, Value.slice none 0 0, Value.slice none 0 0, Value.slice none 0 0, Value.slice none 0 0, Value.slice none 0 0] 30)
  have bB : Blk (((w.alloc (.cells #[Value.int .i64 a.rev, Value.slice p1 a.jobs.length c1, Value.slice p2 a.nodes.length c2, Value.slice p3 a.leases.length c3] 26)).alloc (.cells #[Value.int .i64 b.rev, Value.slice q1 b.jobs.length d1, Value.slice q2 b.nodes.length d2, Value.slice q3 b.leases.length d3] 26)).alloc (.cells #[Value.int .i64 0, Value.int .i64 0, Value.slice none 0 0, Value.slice none 0 0, Value.slice none 0 0, Value.slice none 0 0, Value.slice none 0 0, Value.slice none 0 0] 30)) (w.heap.size + 1) 26 #[Value.int .i64 b.rev, Value.slice q1 b.jobs.length d1, Value.slice q2 b.nodes.length d2, Value.slice q3 b.leases.length d3] := by have := (Blk.new (w.alloc (.cells #[Value.int .i64 a.rev, Value.slice p1 a.jobs.length c1, Value.slice p2 a.nodes.length c2, Value.slice p3 a.leases.length c3] 26)) 26 #[Value.int .i64 b.rev, Value.slice q1 b.jobs.length d1, Value.slice q2 b.nodes.length d2, Value.slice q3 b.leases.length d3]).alloc (.cells #[Value.int .i64 0, Value.int .i64 0, Value.slice none 0 0, Value.slice none 0 0, Value.slice none 0 0, Value.slice none 0 0, Value.slice none 0 0, Value.slice none 0 0] 30); simpa using this
  have bR : Blk (((w.alloc (.cells #[Value.int .i64 a.rev, Value.slice p1 a.jobs.length c1, Value.slice p2 a.nodes.length c2, Value.slice p3 a.leases.length c3] 26)).alloc (.cells #[Value.int .i64 b.rev, Value.slice q1 b.jobs.length d1, Value.slice q2 b.nodes.length d2, Value.slice q3 b.leases.length d3] 26)).alloc (.cells #[Value.int .i64 0, Value.int .i64 0, Value.slice none 0 0, Value.slice none 0 0, Value.slice none 0 0, Value.slice none 0 0, Value.slice none 0 0, Value.slice none 0 0] 30)) (w.heap.size + 1 + 1) 30 #[Value.int .i64 0, Value.int .i64 0, Value.slice none 0 0, Value.slice none 0 0, Value.slice none 0 0, Value.slice none 0 0, Value.slice none 0 0, Value.slice none 0 0] := by have := Blk.new ((w.alloc (.cells #[Value.int .i64 a.rev, Value.slice p1 a.jobs.length c1, Value.slice p2 a.nodes.length c2, Value.slice p3 a.leases.length c3] 26)).alloc (.cells #[Value.int .i64 b.rev, Value.slice q1 b.jobs.length d1, Value.slice q2 b.nodes.length d2, Value.slice q3 b.leases.length d3] 26)) 30 #[Value.int .i64 0, Value.int .i64 0, Value.slice none 0 0, Value.slice none 0 0, Value.slice none 0 0, Value.slice none 0 0, Value.slice none 0 0, Value.slice none 0 0]; simpa using this
  have hsz : (((w.alloc (.cells #[Value.int .i64 a.rev, Value.slice p1 a.jobs.length c1, Value.slice p2 a.nodes.length c2, Value.slice p3 a.leases.length c3] 26)).alloc (.cells #[Value.int .i64 b.rev, Value.slice q1 b.jobs.length d1, Value.slice q2 b.nodes.length d2, Value.slice q3 b.leases.length d3] 26)).alloc (.cells #[Value.int .i64 0, Value.int .i64 0, Value.slice none 0 0, Value.slice none 0 0, Value.slice none 0 0, Value.slice none 0 0, Value.slice none 0 0, Value.slice none 0 0] 30)).heap.size = w.heap.size + 1 + 1 + 1 := by simp
  clear ha hb zj zn zl
  go_enter Tryz.func42, Tryz.ntmps42
  go_wp2_with (first | (refine wpList_store_new rfl _ _ _ rfl rfl 30 _ #[Value.int .i64 a.rev, Value.int .i64 b.rev, Value.slice none 0 0, Value.slice none 0 0, Value.slice none 0 0, Value.slice none 0 0, Value.slice none 0 0, Value.slice none 0 0] rfl delta_size rfl (one_d8 _ _ _ _ _ _ _ _ _ _ _ _ _ _ _ _ _ _ _ _) ?_))
  generalize ((w.alloc (.cells #[Value.int .i64 a.rev, Value.slice p1 a.jobs.length c1, Value.slice p2 a.nodes.length c2, Value.slice p3 a.leases.length c3] 26)).alloc (.cells #[Value.int .i64 b.rev, Value.slice q1 b.jobs.length d1, Value.slice q2 b.nodes.length d2, Value.slice q3 b.leases.length d3] 26)).alloc (.cells #[Value.int .i64 0, Value.int .i64 0, Value.slice none 0 0, Value.slice none 0 0, Value.slice none 0 0, Value.slice none 0 0, Value.slice none 0 0, Value.slice none 0 0] 30) = W0 at *
  have hB1 := hB0.alloc hB0.size (.cells #[Value.int .i64 a.rev, Value.int .i64 b.rev, Value.slice none 0 0, Value.slice none 0 0, Value.slice none 0 0, Value.slice none 0 0, Value.slice none 0 0, Value.slice none 0 0] 30)
  have bA1 := bA.alloc (.cells #[Value.int .i64 a.rev, Value.int .i64 b.rev, Value.slice none 0 0, Value.slice none 0 0, Value.slice none 0 0, Value.slice none 0 0, Value.slice none 0 0, Value.slice none 0 0] 30)
  have bB1 := bB.alloc (.cells #[Value.int .i64 a.rev, Value.int .i64 b.rev, Value.slice none 0 0, Value.slice none 0 0, Value.slice none 0 0, Value.slice none 0 0, Value.slice none 0 0, Value.slice none 0 0] 30)
  have bR1 := bR.alloc (.cells #[Value.int .i64 a.rev, Value.int .i64 b.rev, Value.slice none 0 0, Value.slice none 0 0, Value.slice none 0 0, Value.slice none 0 0, Value.slice none 0 0, Value.slice none 0 0] 30)
  have bD1 := Blk.new W0 30 #[Value.int .i64 a.rev, Value.int .i64 b.rev, Value.slice none 0 0, Value.slice none 0 0, Value.slice none 0 0, Value.slice none 0 0, Value.slice none 0 0, Value.slice none 0 0]
  rw [hsz] at bD1
  have hlD : w.heap.size + 1 + 1 + 1 < (W0.alloc (.cells #[Value.int .i64 a.rev, Value.int .i64 b.rev, Value.slice none 0 0, Value.slice none 0 0, Value.slice none 0 0, Value.slice none 0 0, Value.slice none 0 0, Value.slice none 0 0] 30)).heap.size := bD1.lt
  clear bA bB bR
  have hn1 : ¬ ((w.heap.size + 1 + 1 + 1) = w.heap.size) := by omega
  have hn2 : ¬ ((w.heap.size + 1 + 1 + 1) = w.heap.size + 1) := by omega
  have hn3 : ¬ ((w.heap.size + 1 + 1 + 1) = w.heap.size + 1 + 1) := by omega
  generalize hWd : W0.alloc (.cells #[Value.int .i64 a.rev, Value.int .i64 b.rev, Value.slice none 0 0, Value.slice none 0 0, Value.slice none 0 0, Value.slice none 0 0, Value.slice none 0 0, Value.slice none 0 0] 30) = Wd at *
  refine (HJ.out _ hB1).mono ?_
  rintro e v1 ⟨r1, s1, g1, t1, rfl, OS1, OG1, hb1⟩
  have hBv1 := hB1.trans (hb1.mono hB1.size)
  have Av1 := bA1.below hb1 bA1.lt
  have Bv1 := bB1.below hb1 bB1.lt
  have Rv1 := bR1.below hb1 bR1.lt
  have Dv1 := bD1.below hb1 bD1.lt
  have zv1 := hb1.size
  have lv1 : (w.heap.size + 1 + 1 + 1) < Wd.heap.size := bD1.lt
  clear bA1 bB1 bR1 bD1
  have x1 : v1.cell? ⟨w.heap.size + 1 + 1 + 1, 2, none⟩ = some (Value.slice none 0 0) := Dv1.cell 2
  have x2 : v1.cell? ⟨w.heap.size + 1 + 1 + 1, 5, none⟩ = some (Value.slice none 0 0) := Dv1.cell 5
  have y1 : v1.frozen? ⟨w.heap.size + 1 + 1 + 1, 2, none⟩ = false := Dv1.frozen 2
  have y2 : v1.frozen? ⟨w.heap.size + 1 + 1 + 1, 5, none⟩ = false := Dv1.frozen 5
  have x3 : v1.cell? ⟨w.heap.size, 2, none⟩ = some (.slice p2 a.nodes.length c2) := Av1.cell 2
  have x4 : v1.cell? ⟨w.heap.size + 1, 2, none⟩ = some (.slice q2 b.nodes.length d2) := Bv1.cell 2
  have nA1 := (Av1.far (p := ⟨w.heap.size + 1 + 1 + 1, 2, none⟩) (Ne.symm hn1) (Value.slice r1 (setOf a.jobs b.jobs).length s1)).far (p := ⟨w.heap.size + 1 + 1 + 1, 5, none⟩) (Ne.symm hn1) (Value.slice g1 (goneOf JobD.name a.jobs b.jobs).length t1)
  have nB1 := (Bv1.far (p := ⟨w.heap.size + 1 + 1 + 1, 2, none⟩) (Ne.symm hn2) (Value.slice r1 (setOf a.jobs b.jobs).length s1)).far (p := ⟨w.heap.size + 1 + 1 + 1, 5, none⟩) (Ne.symm hn2) (Value.slice g1 (goneOf JobD.name a.jobs b.jobs).length t1)
  have nR1 := (Rv1.far (p := ⟨w.heap.size + 1 + 1 + 1, 2, none⟩) (Ne.symm hn3) (Value.slice r1 (setOf a.jobs b.jobs).length s1)).far (p := ⟨w.heap.size + 1 + 1 + 1, 5, none⟩) (Ne.symm hn3) (Value.slice g1 (goneOf JobD.name a.jobs b.jobs).length t1)
  have nD1 : Blk ((v1.setCell ⟨w.heap.size + 1 + 1 + 1, 2, none⟩ (Value.slice r1 (setOf a.jobs b.jobs).length s1)).setCell ⟨w.heap.size + 1 + 1 + 1, 5, none⟩ (Value.slice g1 (goneOf JobD.name a.jobs b.jobs).length t1)) (w.heap.size + 1 + 1 + 1) 30 #[Value.int .i64 a.rev, Value.int .i64 b.rev, Value.slice r1 (setOf a.jobs b.jobs).length s1, Value.slice none 0 0, Value.slice none 0 0, Value.slice g1 (goneOf JobD.name a.jobs b.jobs).length t1, Value.slice none 0 0, Value.slice none 0 0] := (Dv1.set_ 2 (Value.slice r1 (setOf a.jobs b.jobs).length s1)).set_ 5 (Value.slice g1 (goneOf JobD.name a.jobs b.jobs).length t1)
  have hBn1 := (hBv1.setCell (p := ⟨w.heap.size + 1 + 1 + 1, 2, none⟩) (by show w.heap.size ≤ (w.heap.size + 1 + 1 + 1); omega) (Value.slice r1 (setOf a.jobs b.jobs).length s1)).setCell (p := ⟨w.heap.size + 1 + 1 + 1, 5, none⟩) (by show w.heap.size ≤ (w.heap.size + 1 + 1 + 1); omega) (Value.slice g1 (goneOf JobD.name a.jobs b.jobs).length t1)
  have nOS1 := (OS1.cell_ (a := ⟨w.heap.size + 1 + 1 + 1, 2, none⟩) (by show (w.heap.size + 1 + 1 + 1) < _; omega) (Value.slice r1 (setOf a.jobs b.jobs).length s1)).cell_ (a := ⟨w.heap.size + 1 + 1 + 1, 5, none⟩) (by show (w.heap.size + 1 + 1 + 1) < _; omega) (Value.slice g1 (goneOf JobD.name a.jobs b.jobs).length t1)
  have nOG1 := (OG1.cell_ (a := ⟨w.heap.size + 1 + 1 + 1, 2, none⟩) (by show (w.heap.size + 1 + 1 + 1) < _; omega) (Value.slice r1 (setOf a.jobs b.jobs).length s1)).cell_ (a := ⟨w.heap.size + 1 + 1 + 1, 5, none⟩) (by show (w.heap.size + 1 + 1 + 1) < _; omega) (Value.slice g1 (goneOf JobD.name a.jobs b.jobs).length t1)
  clear OS1 OG1
  go_wp2_with fail
  generalize (v1.setCell ⟨w.heap.size + 1 + 1 + 1, 2, none⟩ (Value.slice r1 (setOf a.jobs b.jobs).length s1)).setCell ⟨w.heap.size + 1 + 1 + 1, 5, none⟩ (Value.slice g1 (goneOf JobD.name a.jobs b.jobs).length t1) = u1 at *
  clear x1 x2 y1 y2 x3 x4 Av1 Bv1 Rv1 Dv1
  refine (HN.out _ hBn1).mono ?_
  rintro e v2 ⟨r2, s2, g2, t2, rfl, OS2, OG2, hb2⟩
  have hBv2 := hBn1.trans (hb2.mono hBn1.size)
  have Av2 := nA1.below hb2 nA1.lt
  have Bv2 := nB1.below hb2 nB1.lt
  have Rv2 := nR1.below hb2 nR1.lt
  have Dv2 := nD1.below hb2 nD1.lt
  have zv2 := hb2.size
  have lv2 : (w.heap.size + 1 + 1 + 1) < u1.heap.size := nD1.lt
  have nOS1' := nOS1.below hb2
  have nOG1' := nOG1.below hb2
  clear nOS1 nOG1
  clear nA1 nB1 nR1 nD1
  have x1 : v2.cell? ⟨w.heap.size + 1 + 1 + 1, 3, none⟩ = some (Value.slice none 0 0) := Dv2.cell 3
  have x2 : v2.cell? ⟨w.heap.size + 1 + 1 + 1, 6, none⟩ = some (Value.slice none 0 0) := Dv2.cell 6
  have y1 : v2.frozen? ⟨w.heap.size + 1 + 1 + 1, 3, none⟩ = false := Dv2.frozen 3
  have y2 : v2.frozen? ⟨w.heap.size + 1 + 1 + 1, 6, none⟩ = false := Dv2.frozen 6
  have x3 : v2.cell? ⟨w.heap.size, 3, none⟩ = some (.slice p3 a.leases.length c3) := Av2.cell 3
  have x4 : v2.cell? ⟨w.heap.size + 1, 3, none⟩ = some (.slice q3 b.leases.length d3) := Bv2.cell 3
  have nA2 := (Av2.far (p := ⟨w.heap.size + 1 + 1 + 1, 3, none⟩) (Ne.symm hn1) (Value.slice r2 (setOf a.nodes b.nodes).length s2)).far (p := ⟨w.heap.size + 1 + 1 + 1, 6, none⟩) (Ne.symm hn1) (Value.slice g2 (goneOf NodeD.name a.nodes b.nodes).length t2)
  have nB2 := (Bv2.far (p := ⟨w.heap.size + 1 + 1 + 1, 3, none⟩) (Ne.symm hn2) (Value.slice r2 (setOf a.nodes b.nodes).length s2)).far (p := ⟨w.heap.size + 1 + 1 + 1, 6, none⟩) (Ne.symm hn2) (Value.slice g2 (goneOf NodeD.name a.nodes b.nodes).length t2)
  have nR2 := (Rv2.far (p := ⟨w.heap.size + 1 + 1 + 1, 3, none⟩) (Ne.symm hn3) (Value.slice r2 (setOf a.nodes b.nodes).length s2)).far (p := ⟨w.heap.size + 1 + 1 + 1, 6, none⟩) (Ne.symm hn3) (Value.slice g2 (goneOf NodeD.name a.nodes b.nodes).length t2)
  have nD2 : Blk ((v2.setCell ⟨w.heap.size + 1 + 1 + 1, 3, none⟩ (Value.slice r2 (setOf a.nodes b.nodes).length s2)).setCell ⟨w.heap.size + 1 + 1 + 1, 6, none⟩ (Value.slice g2 (goneOf NodeD.name a.nodes b.nodes).length t2)) (w.heap.size + 1 + 1 + 1) 30 #[Value.int .i64 a.rev, Value.int .i64 b.rev, Value.slice r1 (setOf a.jobs b.jobs).length s1, Value.slice r2 (setOf a.nodes b.nodes).length s2, Value.slice none 0 0, Value.slice g1 (goneOf JobD.name a.jobs b.jobs).length t1, Value.slice g2 (goneOf NodeD.name a.nodes b.nodes).length t2, Value.slice none 0 0] := (Dv2.set_ 3 (Value.slice r2 (setOf a.nodes b.nodes).length s2)).set_ 6 (Value.slice g2 (goneOf NodeD.name a.nodes b.nodes).length t2)
  have hBn2 := (hBv2.setCell (p := ⟨w.heap.size + 1 + 1 + 1, 3, none⟩) (by show w.heap.size ≤ (w.heap.size + 1 + 1 + 1); omega) (Value.slice r2 (setOf a.nodes b.nodes).length s2)).setCell (p := ⟨w.heap.size + 1 + 1 + 1, 6, none⟩) (by show w.heap.size ≤ (w.heap.size + 1 + 1 + 1); omega) (Value.slice g2 (goneOf NodeD.name a.nodes b.nodes).length t2)
  have nnOS1 := (nOS1'.cell_ (a := ⟨w.heap.size + 1 + 1 + 1, 3, none⟩) (by show (w.heap.size + 1 + 1 + 1) < _; omega) (Value.slice r2 (setOf a.nodes b.nodes).length s2)).cell_ (a := ⟨w.heap.size + 1 + 1 + 1, 6, none⟩) (by show (w.heap.size + 1 + 1 + 1) < _; omega) (Value.slice g2 (goneOf NodeD.name a.nodes b.nodes).length t2)
  have nnOG1 := (nOG1'.cell_ (a := ⟨w.heap.size + 1 + 1 + 1, 3, none⟩) (by show (w.heap.size + 1 + 1 + 1) < _; omega) (Value.slice r2 (setOf a.nodes b.nodes).length s2)).cell_ (a := ⟨w.heap.size + 1 + 1 + 1, 6, none⟩) (by show (w.heap.size + 1 + 1 + 1) < _; omega) (Value.slice g2 (goneOf NodeD.name a.nodes b.nodes).length t2)
  have nOS2 := (OS2.cell_ (a := ⟨w.heap.size + 1 + 1 + 1, 3, none⟩) (by show (w.heap.size + 1 + 1 + 1) < _; omega) (Value.slice r2 (setOf a.nodes b.nodes).length s2)).cell_ (a := ⟨w.heap.size + 1 + 1 + 1, 6, none⟩) (by show (w.heap.size + 1 + 1 + 1) < _; omega) (Value.slice g2 (goneOf NodeD.name a.nodes b.nodes).length t2)
  have nOG2 := (OG2.cell_ (a := ⟨w.heap.size + 1 + 1 + 1, 3, none⟩) (by show (w.heap.size + 1 + 1 + 1) < _; omega) (Value.slice r2 (setOf a.nodes b.nodes).length s2)).cell_ (a := ⟨w.heap.size + 1 + 1 + 1, 6, none⟩) (by show (w.heap.size + 1 + 1 + 1) < _; omega) (Value.slice g2 (goneOf NodeD.name a.nodes b.nodes).length t2)
  clear nOS1' nOG1' OS2 OG2
  go_wp2_with fail
  generalize (v2.setCell ⟨w.heap.size + 1 + 1 + 1, 3, none⟩ (Value.slice r2 (setOf a.nodes b.nodes).length s2)).setCell ⟨w.heap.size + 1 + 1 + 1, 6, none⟩ (Value.slice g2 (goneOf NodeD.name a.nodes b.nodes).length t2) = u2 at *
  clear x1 x2 y1 y2 x3 x4 Av2 Bv2 Rv2 Dv2
  refine (HL.out _ hBn2).mono ?_
  rintro e v3 ⟨r3, s3, g3, t3, rfl, OS3, OG3, hb3⟩
  have hBv3 := hBn2.trans (hb3.mono hBn2.size)
  have Av3 := nA2.below hb3 nA2.lt
  have Bv3 := nB2.below hb3 nB2.lt
  have Rv3 := nR2.below hb3 nR2.lt
  have Dv3 := nD2.below hb3 nD2.lt
  have zv3 := hb3.size
  have lv3 : (w.heap.size + 1 + 1 + 1) < u2.heap.size := nD2.lt
  have nnOS1' := nnOS1.below hb3
  have nnOG1' := nnOG1.below hb3
  have nOS2' := nOS2.below hb3
  have nOG2' := nOG2.below hb3
  clear nnOS1 nnOG1 nOS2 nOG2
  clear nA2 nB2 nR2 nD2
  have x1 : v3.cell? ⟨w.heap.size + 1 + 1 + 1, 4, none⟩ = some (Value.slice none 0 0) := Dv3.cell 4
  have x2 : v3.cell? ⟨w.heap.size + 1 + 1 + 1, 7, none⟩ = some (Value.slice none 0 0) := Dv3.cell 7
  have y1 : v3.frozen? ⟨w.heap.size + 1 + 1 + 1, 4, none⟩ = false := Dv3.frozen 4
  have y2 : v3.frozen? ⟨w.heap.size + 1 + 1 + 1, 7, none⟩ = false := Dv3.frozen 7
  have nA3 := (Av3.far (p := ⟨w.heap.size + 1 + 1 + 1, 4, none⟩) (Ne.symm hn1) (Value.slice r3 (setOf a.leases b.leases).length s3)).far (p := ⟨w.heap.size + 1 + 1 + 1, 7, none⟩) (Ne.symm hn1) (Value.slice g3 (goneOf LeaseD.job a.leases b.leases).length t3)
  have nB3 := (Bv3.far (p := ⟨w.heap.size + 1 + 1 + 1, 4, none⟩) (Ne.symm hn2) (Value.slice r3 (setOf a.leases b.leases).length s3)).far (p := ⟨w.heap.size + 1 + 1 + 1, 7, none⟩) (Ne.symm hn2) (Value.slice g3 (goneOf LeaseD.job a.leases b.leases).length t3)
  have nR3 := (Rv3.far (p := ⟨w.heap.size + 1 + 1 + 1, 4, none⟩) (Ne.symm hn3) (Value.slice r3 (setOf a.leases b.leases).length s3)).far (p := ⟨w.heap.size + 1 + 1 + 1, 7, none⟩) (Ne.symm hn3) (Value.slice g3 (goneOf LeaseD.job a.leases b.leases).length t3)
  have nD3 : Blk ((v3.setCell ⟨w.heap.size + 1 + 1 + 1, 4, none⟩ (Value.slice r3 (setOf a.leases b.leases).length s3)).setCell ⟨w.heap.size + 1 + 1 + 1, 7, none⟩ (Value.slice g3 (goneOf LeaseD.job a.leases b.leases).length t3)) (w.heap.size + 1 + 1 + 1) 30 #[Value.int .i64 a.rev, Value.int .i64 b.rev, Value.slice r1 (setOf a.jobs b.jobs).length s1, Value.slice r2 (setOf a.nodes b.nodes).length s2, Value.slice r3 (setOf a.leases b.leases).length s3, Value.slice g1 (goneOf JobD.name a.jobs b.jobs).length t1, Value.slice g2 (goneOf NodeD.name a.nodes b.nodes).length t2, Value.slice g3 (goneOf LeaseD.job a.leases b.leases).length t3] := (Dv3.set_ 4 (Value.slice r3 (setOf a.leases b.leases).length s3)).set_ 7 (Value.slice g3 (goneOf LeaseD.job a.leases b.leases).length t3)
  have hBn3 := (hBv3.setCell (p := ⟨w.heap.size + 1 + 1 + 1, 4, none⟩) (by show w.heap.size ≤ (w.heap.size + 1 + 1 + 1); omega) (Value.slice r3 (setOf a.leases b.leases).length s3)).setCell (p := ⟨w.heap.size + 1 + 1 + 1, 7, none⟩) (by show w.heap.size ≤ (w.heap.size + 1 + 1 + 1); omega) (Value.slice g3 (goneOf LeaseD.job a.leases b.leases).length t3)
  have nnnOS1 := (nnOS1'.cell_ (a := ⟨w.heap.size + 1 + 1 + 1, 4, none⟩) (by show (w.heap.size + 1 + 1 + 1) < _; omega) (Value.slice r3 (setOf a.leases b.leases).length s3)).cell_ (a := ⟨w.heap.size + 1 + 1 + 1, 7, none⟩) (by show (w.heap.size + 1 + 1 + 1) < _; omega) (Value.slice g3 (goneOf LeaseD.job a.leases b.leases).length t3)
  have nnnOG1 := (nnOG1'.cell_ (a := ⟨w.heap.size + 1 + 1 + 1, 4, none⟩) (by show (w.heap.size + 1 + 1 + 1) < _; omega) (Value.slice r3 (setOf a.leases b.leases).length s3)).cell_ (a := ⟨w.heap.size + 1 + 1 + 1, 7, none⟩) (by show (w.heap.size + 1 + 1 + 1) < _; omega) (Value.slice g3 (goneOf LeaseD.job a.leases b.leases).length t3)
  have nnOS2 := (nOS2'.cell_ (a := ⟨w.heap.size + 1 + 1 + 1, 4, none⟩) (by show (w.heap.size + 1 + 1 + 1) < _; omega) (Value.slice r3 (setOf a.leases b.leases).length s3)).cell_ (a := ⟨w.heap.size + 1 + 1 + 1, 7, none⟩) (by show (w.heap.size + 1 + 1 + 1) < _; omega) (Value.slice g3 (goneOf LeaseD.job a.leases b.leases).length t3)
  have nnOG2 := (nOG2'.cell_ (a := ⟨w.heap.size + 1 + 1 + 1, 4, none⟩) (by show (w.heap.size + 1 + 1 + 1) < _; omega) (Value.slice r3 (setOf a.leases b.leases).length s3)).cell_ (a := ⟨w.heap.size + 1 + 1 + 1, 7, none⟩) (by show (w.heap.size + 1 + 1 + 1) < _; omega) (Value.slice g3 (goneOf LeaseD.job a.leases b.leases).length t3)
  have nOS3 := (OS3.cell_ (a := ⟨w.heap.size + 1 + 1 + 1, 4, none⟩) (by show (w.heap.size + 1 + 1 + 1) < _; omega) (Value.slice r3 (setOf a.leases b.leases).length s3)).cell_ (a := ⟨w.heap.size + 1 + 1 + 1, 7, none⟩) (by show (w.heap.size + 1 + 1 + 1) < _; omega) (Value.slice g3 (goneOf LeaseD.job a.leases b.leases).length t3)
  have nOG3 := (OG3.cell_ (a := ⟨w.heap.size + 1 + 1 + 1, 4, none⟩) (by show (w.heap.size + 1 + 1 + 1) < _; omega) (Value.slice r3 (setOf a.leases b.leases).length s3)).cell_ (a := ⟨w.heap.size + 1 + 1 + 1, 7, none⟩) (by show (w.heap.size + 1 + 1 + 1) < _; omega) (Value.slice g3 (goneOf LeaseD.job a.leases b.leases).length t3)
  clear nnOS1' nnOG1' nOS2' nOG2' OS3 OG3
  go_upto_region 5 with (fail)
  generalize (v3.setCell ⟨w.heap.size + 1 + 1 + 1, 4, none⟩ (Value.slice r3 (setOf a.leases b.leases).length s3)).setCell ⟨w.heap.size + 1 + 1 + 1, 7, none⟩ (Value.slice g3 (goneOf LeaseD.job a.leases b.leases).length t3) = u3 at *
  clear x1 x2 y1 y2 Av3 Bv3 Rv3 Dv3
  have hR := nR3.setRow #[Value.int .i64 a.rev, Value.int .i64 b.rev, Value.slice r1 (setOf a.jobs b.jobs).length s1, Value.slice r2 (setOf a.nodes b.nodes).length s2, Value.slice r3 (setOf a.leases b.leases).length s3, Value.slice g1 (goneOf JobD.name a.jobs b.jobs).length t1, Value.slice g2 (goneOf NodeD.name a.nodes b.nodes).length t2, Value.slice g3 (goneOf LeaseD.job a.leases b.leases).length t3]
  have hBz := below_setRow hBn3 (g := w.heap.size + 1 + 1) (by omega) #[Value.int .i64 a.rev, Value.int .i64 b.rev, Value.slice r1 (setOf a.jobs b.jobs).length s1, Value.slice r2 (setOf a.nodes b.nodes).length s2, Value.slice r3 (setOf a.leases b.leases).length s3, Value.slice g1 (goneOf JobD.name a.jobs b.jobs).length t1, Value.slice g2 (goneOf NodeD.name a.nodes b.nodes).length t2, Value.slice g3 (goneOf LeaseD.job a.leases b.leases).length t3]
  have znnnOS1 := (nnnOS1.row_ (g := w.heap.size + 1 + 1) (by omega) #[Value.int .i64 a.rev, Value.int .i64 b.rev, Value.slice r1 (setOf a.jobs b.jobs).length s1, Value.slice r2 (setOf a.nodes b.nodes).length s2, Value.slice r3 (setOf a.leases b.leases).length s3, Value.slice g1 (goneOf JobD.name a.jobs b.jobs).length t1, Value.slice g2 (goneOf NodeD.name a.nodes b.nodes).length t2, Value.slice g3 (goneOf LeaseD.job a.leases b.leases).length t3]).lower (b := w.heap.size) (by omega)
  have znnnOG1 := (nnnOG1.row_ (g := w.heap.size + 1 + 1) (by omega) #[Value.int .i64 a.rev, Value.int .i64 b.rev, Value.slice r1 (setOf a.jobs b.jobs).length s1, Value.slice r2 (setOf a.nodes b.nodes).length s2, Value.slice r3 (setOf a.leases b.leases).length s3, Value.slice g1 (goneOf JobD.name a.jobs b.jobs).length t1, Value.slice g2 (goneOf NodeD.name a.nodes b.nodes).length t2, Value.slice g3 (goneOf LeaseD.job a.leases b.leases).length t3]).lower (b := w.heap.size) (by omega)
  have znnOS2 := (nnOS2.row_ (g := w.heap.size + 1 + 1) (by omega) #[Value.int .i64 a.rev, Value.int .i64 b.rev, Value.slice r1 (setOf a.jobs b.jobs).length s1, Value.slice r2 (setOf a.nodes b.nodes).length s2, Value.slice r3 (setOf a.leases b.leases).length s3, Value.slice g1 (goneOf JobD.name a.jobs b.jobs).length t1, Value.slice g2 (goneOf NodeD.name a.nodes b.nodes).length t2, Value.slice g3 (goneOf LeaseD.job a.leases b.leases).length t3]).lower (b := w.heap.size) (by omega)
  have znnOG2 := (nnOG2.row_ (g := w.heap.size + 1 + 1) (by omega) #[Value.int .i64 a.rev, Value.int .i64 b.rev, Value.slice r1 (setOf a.jobs b.jobs).length s1, Value.slice r2 (setOf a.nodes b.nodes).length s2, Value.slice r3 (setOf a.leases b.leases).length s3, Value.slice g1 (goneOf JobD.name a.jobs b.jobs).length t1, Value.slice g2 (goneOf NodeD.name a.nodes b.nodes).length t2, Value.slice g3 (goneOf LeaseD.job a.leases b.leases).length t3]).lower (b := w.heap.size) (by omega)
  have znOS3 := (nOS3.row_ (g := w.heap.size + 1 + 1) (by omega) #[Value.int .i64 a.rev, Value.int .i64 b.rev, Value.slice r1 (setOf a.jobs b.jobs).length s1, Value.slice r2 (setOf a.nodes b.nodes).length s2, Value.slice r3 (setOf a.leases b.leases).length s3, Value.slice g1 (goneOf JobD.name a.jobs b.jobs).length t1, Value.slice g2 (goneOf NodeD.name a.nodes b.nodes).length t2, Value.slice g3 (goneOf LeaseD.job a.leases b.leases).length t3]).lower (b := w.heap.size) (by omega)
  have znOG3 := (nOG3.row_ (g := w.heap.size + 1 + 1) (by omega) #[Value.int .i64 a.rev, Value.int .i64 b.rev, Value.slice r1 (setOf a.jobs b.jobs).length s1, Value.slice r2 (setOf a.nodes b.nodes).length s2, Value.slice r3 (setOf a.leases b.leases).length s3, Value.slice g1 (goneOf JobD.name a.jobs b.jobs).length t1, Value.slice g2 (goneOf NodeD.name a.nodes b.nodes).length t2, Value.slice g3 (goneOf LeaseD.job a.leases b.leases).length t3]).lower (b := w.heap.size) (by omega)
  clear nnnOS1 nnnOG1 nnOS2 nnOG2 nOS3 nOG3
  go_wp2_with (first
    | (refine wpList_load_blk rfl _ _ rfl (w.heap.size + 1 + 1 + 1) rfl _ #[Value.int .i64 a.rev, Value.int .i64 b.rev, Value.slice r1 (setOf a.jobs b.jobs).length s1, Value.slice r2 (setOf a.nodes b.nodes).length s2, Value.slice r3 (setOf a.leases b.leases).length s3, Value.slice g1 (goneOf JobD.name a.jobs b.jobs).length t1, Value.slice g2 (goneOf NodeD.name a.nodes b.nodes).length t2, Value.slice g3 (goneOf LeaseD.job a.leases b.leases).length t3] nD3 _ Tryz.underlying30 rfl delta_size ?_)
    | (refine wpList_store_blk rfl _ _ _ rfl (w.heap.size + 1 + 1) rfl _ _ #[Value.int .i64 a.rev, Value.int .i64 b.rev, Value.slice r1 (setOf a.jobs b.jobs).length s1, Value.slice r2 (setOf a.nodes b.nodes).length s2, Value.slice r3 (setOf a.leases b.leases).length s3, Value.slice g1 (goneOf JobD.name a.jobs b.jobs).length t1, Value.slice g2 (goneOf NodeD.name a.nodes b.nodes).length t2, Value.slice g3 (goneOf LeaseD.job a.leases b.leases).length t3] nR3 rfl delta_size rfl (one_d8 _ _ _ _ _ _ _ _ _ _ _ _ _ _ _ _ _ _ _ _) ?_))
  refine bodyPost_ret (results_cell1 rfl _ rfl hR Tryz.underlying30 rfl delta_size) rfl ?_
  exact ⟨r1, r2, r3, g1, g2, g3, s1, s2, s3, t1, t2, t3, rfl, ⟨znnnOS1, znnOS2, znOS3, znnnOG1, znnOG2, znOG3⟩, hBz⟩
end Go.Proofs.YtkommikehbbhbaaGreatDoor

/-
  The contract of delta.Diff.
-/
set_option linter.unusedVariables false
set_option linter.unusedSimpArgs false
namespace Go.Proofs.YtkommikehbbhbaaGreatDoor
open Go.RowKit

theorem At.part {w : World} {g : Nat} {t : TypeId} {cs : Array Value} (h : Blk w g t cs) (o : Nat) (l : List Value) (hl : ∀ j v, l[j]? = some v → cs[o + j]? = some v) : At w ⟨g, o, none⟩ l := fun j v hv => by
  rw [show (⟨g, o, none⟩ : Addr).add j = ⟨g, o + j, none⟩ from by unfold Addr.add; simp, h.cell]
  exact hl j v hv
theorem own_nilD (w : World) (base : Nat) : DelOwn w base none none none none none none 0 0 0 0 0 0 noD :=
  ⟨⟨by simp [noD], World.ownsRow_nil _ _ _ _⟩, ⟨by simp [noD], World.ownsRow_nil _ _ _ _⟩, ⟨by simp [noD], World.ownsRow_nil _ _ _ _⟩, ⟨by simp [noD], World.ownsRow_nil _ _ _ _⟩, ⟨by simp [noD], World.ownsRow_nil _ _ _ _⟩, ⟨by simp [noD], World.ownsRow_nil _ _ _ _⟩⟩
def DiffPost (w : World) (n : Nat) (d : DeltaD) (e : Ending) (w' : World) : Prop :=
  ∃ p1 p2 p3 p4 p5 p6 c1 c2 c3 c4 c5 c6, e = .returned (.tuple #[.agg #[Value.int .i64 d.frm, Value.int .i64 d.upto, Value.slice p1 d.jobs.length c1, Value.slice p2 d.nodes.length c2, Value.slice p3 d.leases.length c3, Value.slice p4 d.gj.length c4, Value.slice p5 d.gn.length c5, Value.slice p6 d.gl.length c6], .int .i64 (n : Int)]) ∧ DelOwn w' w.heap.size p1 p2 p3 p4 p5 p6 c1 c2 c3 c4 c5 c6 d ∧ Below w.heap.size w w'
set_option maxHeartbeats 8000000 in
set_option maxRecDepth 100000 in
theorem diff_any (a b : St) (p1 p2 p3 q1 q2 q3 : Option Addr) (c1 c2 c3 d1 d2 d3 : Nat) (w : World) (ha : StM w w.heap.size p1 p2 p3 a) (hb : StM w w.heap.size q1 q2 q3 b) (za : StSz a) (zb : StSz b) (hT : Tabs w) :
    Calls Tryz.prog 17 #[.agg #[Value.int .i64 a.rev, Value.slice p1 a.jobs.length c1, Value.slice p2 a.nodes.length c2, Value.slice p3 a.leases.length c3], .agg #[Value.int .i64 b.rev, Value.slice q1 b.jobs.length d1, Value.slice q2 b.nodes.length d2, Value.slice q3 b.leases.length d3]] w fun e w' => DiffPost w (diffE a b) (diffD a b) e w' := by
  have hzd := zero_delta_lit
  have HA := Lib.hid (fun (W : World) (hW : Below w.heap.size w W) => stCheck_any a p1 p2 p3 c1 c2 c3 W ((ha.below hW).more hW.size) za (hT.below hW))
  have HB := Lib.hid (fun (W : World) (hW : Below w.heap.size w W) => stCheck_any b q1 q2 q3 d1 d2 d3 W ((hb.below hW).more hW.size) zb (hT.below hW))
  have HW := Lib.hid (fun (W : World) (hW : Below w.heap.size w W) => betw_any a b p1 p2 p3 q1 q2 q3 c1 c2 c3 d1 d2 d3 W ((ha.below hW).more hW.size) ((hb.below hW).more hW.size))
  have hB0 : Below w.heap.size w (((w.alloc (.cells #[Value.int .i64 a.rev, Value.slice p1 a.jobs.length c1, Value.slice p2 a.nodes.length c2, Value.slice p3 a.leases.length c3] 26)).alloc (.cells #[Value.int .i64 b.rev, Value.slice q1 b.jobs.length d1, Value.slice q2 b.nodes.length d2, Value.slice q3 b.leases.length d3] 26)).alloc (.cells #[Value.int .i64 0, Value.int .i64 0, Value.slice none 0 0, Value.slice none 0 0, Value.slice none 0 0, Value.slice none 0 0, Value.slice none 0 0, Value.slice none 0 0] 30)) := (((Below.refl _ _).alloc (Nat.le_refl _) _).alloc (by simp) _).alloc (by simp; omega) _
  have bA := ((Blk.new w 26 #[Value.int .i64 a.rev, Value.slice p1 a.jobs.length c1, Value.slice p2 a.nodes.length c2, Value.slice p3 a.leases.length c3]).alloc (.cells #[Value.int .i64 b.rev, Value.slice q1 b.jobs.length d1, Value.slice q2 b.nodes.length d2, Value.slice q3 b.leases.length d3] 26)).alloc (.cells #[Value.int .i64 0, Value.int .i64 0, Value.slice none 0 0, Value.slice none 0 0, Value.slice none 0 0, Value.slice none 0 0, Value.slice none 0 0, Value.slice none 0 0] 30)
  have bB : Blk (((w.alloc (.cells #[Value.int .i64 a.rev, Value.slice p1 a.jobs.length c1, Value.slice p2 a.nodes.length c2, Value.slice p3 a.leases.length c3] 26)).alloc (.cells #[Value.int .i64 b.rev, Value.slice q1 b.jobs.length d1, Value.slice q2 b.nodes.length d2, Value.slice q3 b.leases.length d3] 26)).alloc (.cells #[Value.int .i64 0, Value.int .i64 0, Value.slice none 0 0, Value.slice none 0 0, Value.slice none 0 0, Value.slice none 0 0, Value.slice none 0 0, Value.slice none 0 0] 30)) (w.heap.size + 1) 26 #[Value.int .i64 b.rev, Value.slice q1 b.jobs.length d1, Value.slice q2 b.nodes.length d2, Value.slice q3 b.leases.length d3] := by have := (Blk.new (w.alloc (.cells #[Value.int .i64 a.rev, Value.slice p1 a.jobs.length c1, Value.slice p2 a.nodes.length c2, Value.slice p3 a.leases.length c3] 26)) 26 #[Value.int .i64 b.rev, Value.slice q1 b.jobs.length d1, Value.slice q2 b.nodes.length d2, Value.slice q3 b.leases.length d3]).alloc (.cells #[Value.int .i64 0, Value.int .i64 0, Value.slice none 0 0, Value.slice none 0 0, Value.slice none 0 0, Value.slice none 0 0, Value.slice none 0 0, Value.slice none 0 0] 30); simpa using this
  have bR : Blk (((w.alloc (.cells #[Value.int .i64 a.rev, Value.slice p1 a.jobs.length c1, Value.slice p2 a.nodes.length c2, Value.slice p3 a.leases.length c3] 26)).alloc (.cells #[Value.int .i64 b.rev, Value.slice q1 b.jobs.length d1, Value.slice q2 b.nodes.length d2, Value.slice q3 b.leases.length d3] 26)).alloc (.cells #[Value.int .i64 0, Value.int .i64 0, Value.slice none 0 0, Value.slice none 0 0, Value.slice none 0 0, Value.slice none 0 0, Value.slice none 0 0, Value.slice none 0 0] 30)) (w.heap.size + 1 + 1) 30 #[Value.int .i64 0, Value.int .i64 0, Value.slice none 0 0, Value.slice none 0 0, Value.slice none 0 0, Value.slice none 0 0, Value.slice none 0 0, Value.slice none 0 0] := by have := Blk.new ((w.alloc (.cells #[Value.int .i64 a.rev, Value.slice p1 a.jobs.length c1, Value.slice p2 a.nodes.length c2, Value.slice p3 a.leases.length c3] 26)).alloc (.cells #[Value.int .i64 b.rev, Value.slice q1 b.jobs.length d1, Value.slice q2 b.nodes.length d2, Value.slice q3 b.leases.length d3] 26)) 30 #[Value.int .i64 0, Value.int .i64 0, Value.slice none 0 0, Value.slice none 0 0, Value.slice none 0 0, Value.slice none 0 0, Value.slice none 0 0, Value.slice none 0 0]; simpa using this
  have bL : Blk ((((w.alloc (.cells #[Value.int .i64 a.rev, Value.slice p1 a.jobs.length c1, Value.slice p2 a.nodes.length c2, Value.slice p3 a.leases.length c3] 26)).alloc (.cells #[Value.int .i64 b.rev, Value.slice q1 b.jobs.length d1, Value.slice q2 b.nodes.length d2, Value.slice q3 b.leases.length d3] 26)).alloc (.cells #[Value.int .i64 0, Value.int .i64 0, Value.slice none 0 0, Value.slice none 0 0, Value.slice none 0 0, Value.slice none 0 0, Value.slice none 0 0, Value.slice none 0 0] 30)).alloc (.cells #[Value.int .i64 a.rev, Value.slice p1 a.jobs.length c1, Value.slice p2 a.nodes.length c2, Value.slice p3 a.leases.length c3, Value.int .i64 b.rev, Value.slice q1 b.jobs.length d1, Value.slice q2 b.nodes.length d2, Value.slice q3 b.leases.length d3] 26)) (w.heap.size + 1 + 1 + 1) 26 #[Value.int .i64 a.rev, Value.slice p1 a.jobs.length c1, Value.slice p2 a.nodes.length c2, Value.slice p3 a.leases.length c3, Value.int .i64 b.rev, Value.slice q1 b.jobs.length d1, Value.slice q2 b.nodes.length d2, Value.slice q3 b.leases.length d3] := by have := Blk.new (((w.alloc (.cells #[Value.int .i64 a.rev, Value.slice p1 a.jobs.length c1, Value.slice p2 a.nodes.length c2, Value.slice p3 a.leases.length c3] 26)).alloc (.cells #[Value.int .i64 b.rev, Value.slice q1 b.jobs.length d1, Value.slice q2 b.nodes.length d2, Value.slice q3 b.leases.length d3] 26)).alloc (.cells #[Value.int .i64 0, Value.int .i64 0, Value.slice none 0 0, Value.slice none 0 0, Value.slice none 0 0, Value.slice none 0 0, Value.slice none 0 0, Value.slice none 0 0] 30)) 26 #[Value.int .i64 a.rev, Value.slice p1 a.jobs.length c1, Value.slice p2 a.nodes.length c2, Value.slice p3 a.leases.length c3, Value.int .i64 b.rev, Value.slice q1 b.jobs.length d1, Value.slice q2 b.nodes.length d2, Value.slice q3 b.leases.length d3]; simpa using this
  have hat0 : At ((((w.alloc (.cells #[Value.int .i64 a.rev, Value.slice p1 a.jobs.length c1, Value.slice p2 a.nodes.length c2, Value.slice p3 a.leases.length c3] 26)).alloc (.cells #[Value.int .i64 b.rev, Value.slice q1 b.jobs.length d1, Value.slice q2 b.nodes.length d2, Value.slice q3 b.leases.length d3] 26)).alloc (.cells #[Value.int .i64 0, Value.int .i64 0, Value.slice none 0 0, Value.slice none 0 0, Value.slice none 0 0, Value.slice none 0 0, Value.slice none 0 0, Value.slice none 0 0] 30)).alloc (.cells #[Value.int .i64 a.rev, Value.slice p1 a.jobs.length c1, Value.slice p2 a.nodes.length c2, Value.slice p3 a.leases.length c3, Value.int .i64 b.rev, Value.slice q1 b.jobs.length d1, Value.slice q2 b.nodes.length d2, Value.slice q3 b.leases.length d3] 26)) ⟨w.heap.size + 1 + 1 + 1, 0, none⟩ [Value.int .i64 a.rev, Value.slice p1 a.jobs.length c1, Value.slice p2 a.nodes.length c2, Value.slice p3 a.leases.length c3] := At.part bL 0 _ (by intro j v hv; rcases j with _ | _ | _ | _ | j <;> simp at hv ⊢ <;> exact hv)
  have hat1 : At ((((w.alloc (.cells #[Value.int .i64 a.rev, Value.slice p1 a.jobs.length c1, Value.slice p2 a.nodes.length c2, Value.slice p3 a.leases.length c3] 26)).alloc (.cells #[Value.int .i64 b.rev, Value.slice q1 b.jobs.length d1, Value.slice q2 b.nodes.length d2, Value.slice q3 b.leases.length d3] 26)).alloc (.cells #[Value.int .i64 0, Value.int .i64 0, Value.slice none 0 0, Value.slice none 0 0, Value.slice none 0 0, Value.slice none 0 0, Value.slice none 0 0, Value.slice none 0 0] 30)).alloc (.cells #[Value.int .i64 a.rev, Value.slice p1 a.jobs.length c1, Value.slice p2 a.nodes.length c2, Value.slice p3 a.leases.length c3, Value.int .i64 b.rev, Value.slice q1 b.jobs.length d1, Value.slice q2 b.nodes.length d2, Value.slice q3 b.leases.length d3] 26)) ⟨w.heap.size + 1 + 1 + 1, 4, none⟩ [Value.int .i64 b.rev, Value.slice q1 b.jobs.length d1, Value.slice q2 b.nodes.length d2, Value.slice q3 b.leases.length d3] := At.part bL 4 _ (by intro j v hv; rcases j with _ | _ | _ | _ | j <;> simp at hv ⊢ <;> exact hv)
  have hB4 := hB0.alloc hB0.size (.cells #[Value.int .i64 a.rev, Value.slice p1 a.jobs.length c1, Value.slice p2 a.nodes.length c2, Value.slice p3 a.leases.length c3, Value.int .i64 b.rev, Value.slice q1 b.jobs.length d1, Value.slice q2 b.nodes.length d2, Value.slice q3 b.leases.length d3] 26)
  have hDD := Lib.hid (show diffD a b = if diffE a b = 0 then betw a b else noD from rfl)
  have hDE := Lib.hid (show diffE a b = if checkE a ≠ 0 then checkE a else if checkE b ≠ 0 then checkE b else if b.rev ≤ a.rev then 1 else 0 from rfl)
  clear ha hb za zb hT
  by_cases hca : checkE a ≠ 0
  · have hne : ((checkE a : Int) != 0) = true := by rw [bne_iff_ne]; omega
    have hfin := Lib.hid (show diffE a b = checkE a from by rw [hDE.out, if_pos hca])
    have hfn := Lib.hid hca
    clear hca
    generalize checkE a = ca at *
    go_enter Tryz.func17, Tryz.ntmps17
    go_wp2_with (first | (refine wpList_load_blk rfl _ _ rfl w.heap.size rfl _ #[Value.int .i64 a.rev, Value.slice p1 a.jobs.length c1, Value.slice p2 a.nodes.length c2, Value.slice p3 a.leases.length c3] bA _ Tryz.underlying26 rfl state_size ?_) | (refine wpList_load_blk rfl _ _ rfl (w.heap.size + 1) rfl _ #[Value.int .i64 b.rev, Value.slice q1 b.jobs.length d1, Value.slice q2 b.nodes.length d2, Value.slice q3 b.leases.length d3] bB _ Tryz.underlying26 rfl state_size ?_))
    have bA := bA.alloc (.cells #[Value.int .i64 a.rev, Value.slice p1 a.jobs.length c1, Value.slice p2 a.nodes.length c2, Value.slice p3 a.leases.length c3, Value.int .i64 b.rev, Value.slice q1 b.jobs.length d1, Value.slice q2 b.nodes.length d2, Value.slice q3 b.leases.length d3] 26)
    have bB := bB.alloc (.cells #[Value.int .i64 a.rev, Value.slice p1 a.jobs.length c1, Value.slice p2 a.nodes.length c2, Value.slice p3 a.leases.length c3, Value.int .i64 b.rev, Value.slice q1 b.jobs.length d1, Value.slice q2 b.nodes.length d2, Value.slice q3 b.leases.length d3] 26)
    have bR := bR.alloc (.cells #[Value.int .i64 a.rev, Value.slice p1 a.jobs.length c1, Value.slice p2 a.nodes.length c2, Value.slice p3 a.leases.length c3, Value.int .i64 b.rev, Value.slice q1 b.jobs.length d1, Value.slice q2 b.nodes.length d2, Value.slice q3 b.leases.length d3] 26)
    clear hB0
    generalize (((w.alloc (.cells #[Value.int .i64 a.rev, Value.slice p1 a.jobs.length c1, Value.slice p2 a.nodes.length c2, Value.slice p3 a.leases.length c3] 26)).alloc (.cells #[Value.int .i64 b.rev, Value.slice q1 b.jobs.length d1, Value.slice q2 b.nodes.length d2, Value.slice q3 b.leases.length d3] 26)).alloc (.cells #[Value.int .i64 0, Value.int .i64 0, Value.slice none 0 0, Value.slice none 0 0, Value.slice none 0 0, Value.slice none 0 0, Value.slice none 0 0, Value.slice none 0 0] 30)).alloc (.cells #[Value.int .i64 a.rev, Value.slice p1 a.jobs.length c1, Value.slice p2 a.nodes.length c2, Value.slice p3 a.leases.length c3, Value.int .i64 b.rev, Value.slice q1 b.jobs.length d1, Value.slice q2 b.nodes.length d2, Value.slice q3 b.leases.length d3] 26) = W4 at *
    refine wp_loop_rounds 3 ?_
    rw [rounds_succ]
    go_wp2_with (first | (refine wpList_load_at rfl _ _ rfl ⟨w.heap.size + 1 + 1 + 1, 0, none⟩ rfl [Value.int .i64 a.rev, Value.slice p1 a.jobs.length c1, Value.slice p2 a.nodes.length c2, Value.slice p3 a.leases.length c3] _ hat0 Tryz.underlying26 rfl state_size ?_) | (refine wpList_store_new rfl _ _ _ rfl rfl 26 _ #[Value.int .i64 a.rev, Value.slice p1 a.jobs.length c1, Value.slice p2 a.nodes.length c2, Value.slice p3 a.leases.length c3] rfl state_size rfl (one_st4 _ _ _ _ _ _ _ _ _ _) ?_))
    have hBx := hB4.alloc hB4.size (.cells #[Value.int .i64 a.rev, Value.slice p1 a.jobs.length c1, Value.slice p2 a.nodes.length c2, Value.slice p3 a.leases.length c3] 26)
    have bA0 := bA.alloc (.cells #[Value.int .i64 a.rev, Value.slice p1 a.jobs.length c1, Value.slice p2 a.nodes.length c2, Value.slice p3 a.leases.length c3] 26)
    have bB0 := bB.alloc (.cells #[Value.int .i64 a.rev, Value.slice p1 a.jobs.length c1, Value.slice p2 a.nodes.length c2, Value.slice p3 a.leases.length c3] 26)
    have bR0 := bR.alloc (.cells #[Value.int .i64 a.rev, Value.slice p1 a.jobs.length c1, Value.slice p2 a.nodes.length c2, Value.slice p3 a.leases.length c3] 26)
    have hat1x := hat1.below ((Below.refl _ _).alloc (Nat.le_refl _) (.cells #[Value.int .i64 a.rev, Value.slice p1 a.jobs.length c1, Value.slice p2 a.nodes.length c2, Value.slice p3 a.leases.length c3] 26)) (show _ < _ from bL.lt)
    have bLx := bL.alloc (.cells #[Value.int .i64 a.rev, Value.slice p1 a.jobs.length c1, Value.slice p2 a.nodes.length c2, Value.slice p3 a.leases.length c3] 26)
    refine (HA.out _ hBx).mono ?_
    rintro e v0 ⟨rfl, hb0⟩
    have hBv0 := hBx.trans (hb0.mono hBx.size)
    have Av0 := bA0.below hb0 bA0.lt
    have Bv0 := bB0.below hb0 bB0.lt
    have Rv0 := bR0.below hb0 bR0.lt
    have hat1v := hat1x.below hb0 (show _ < _ from bLx.lt)
    clear bA0 bB0 bR0 hBx hat1x bLx
    go_wp2_with (first | (refine wpList_store_blk rfl _ _ _ rfl (w.heap.size + 1 + 1) rfl _ _ #[Value.int .i64 0, Value.int .i64 0, Value.slice none 0 0, Value.slice none 0 0, Value.slice none 0 0, Value.slice none 0 0, Value.slice none 0 0, Value.slice none 0 0] Rv0 rfl delta_size rfl (one_d8 _ _ _ _ _ _ _ _ _ _ _ _ _ _ _ _ _ _ _ _) ?_))
    refine bodyPost_ret (results_cell_tmp1 rfl _ rfl (Rv0.setRow #[Value.int .i64 0, Value.int .i64 0, Value.slice none 0 0, Value.slice none 0 0, Value.slice none 0 0, Value.slice none 0 0, Value.slice none 0 0, Value.slice none 0 0]) Tryz.underlying30 rfl delta_size) rfl ?_
    rw [hDD.out]
    rw [hfin.out, if_neg hfn.out]
    exact ⟨none, none, none, none, none, none, 0, 0, 0, 0, 0, 0, rfl, own_nilD _ _, below_setRow hBv0 (by omega) _⟩
  · have hca0 : checkE a = 0 := by omega
    have HFA := Lib.hid ((fine_iff a).1 hca0)
    have HA := HA.out
    rw [hca0] at HA
    have HA := Lib.hid HA
    have hDE : Hid (diffE a b = if checkE b ≠ 0 then checkE b else if b.rev ≤ a.rev then 1 else 0) := Lib.hid (by rw [hDE.out, if_neg hca])
    clear hca hca0
    have hz0 : (((0 : Nat) : Int) != 0) = false := rfl
    by_cases hcb : checkE b ≠ 0
    · have hne : ((checkE b : Int) != 0) = true := by rw [bne_iff_ne]; omega
      have hfin := Lib.hid (show diffE a b = checkE b from by rw [hDE.out, if_pos hcb])
      have hfn := Lib.hid hcb
      clear hcb
      generalize checkE b = cb at *
      go_enter Tryz.func17, Tryz.ntmps17
      go_wp2_with (first | (refine wpList_load_blk rfl _ _ rfl w.heap.size rfl _ #[Value.int .i64 a.rev, Value.slice p1 a.jobs.length c1, Value.slice p2 a.nodes.length c2, Value.slice p3 a.leases.length c3] bA _ Tryz.underlying26 rfl state_size ?_) | (refine wpList_load_blk rfl _ _ rfl (w.heap.size + 1) rfl _ #[Value.int .i64 b.rev, Value.slice q1 b.jobs.length d1, Value.slice q2 b.nodes.length d2, Value.slice q3 b.leases.length d3] bB _ Tryz.underlying26 rfl state_size ?_))
      have bA := bA.alloc (.cells #[Value.int .i64 a.rev, Value.slice p1 a.jobs.length c1, Value.slice p2 a.nodes.length c2, Value.slice p3 a.leases.length c3, Value.int .i64 b.rev, Value.slice q1 b.jobs.length d1, Value.slice q2 b.nodes.length d2, Value.slice q3 b.leases.length d3] 26)
      have bB := bB.alloc (.cells #[Value.int .i64 a.rev, Value.slice p1 a.jobs.length c1, Value.slice p2 a.nodes.length c2, Value.slice p3 a.leases.length c3, Value.int .i64 b.rev, Value.slice q1 b.jobs.length d1, Value.slice q2 b.nodes.length d2, Value.slice q3 b.leases.length d3] 26)
      have bR := bR.alloc (.cells #[Value.int .i64 a.rev, Value.slice p1 a.jobs.length c1, Value.slice p2 a.nodes.length c2, Value.slice p3 a.leases.length c3, Value.int .i64 b.rev, Value.slice q1 b.jobs.length d1, Value.slice q2 b.nodes.length d2, Value.slice q3 b.leases.length d3] 26)
      clear hB0
      generalize (((w.alloc (.cells #[Value.int .i64 a.rev, Value.slice p1 a.jobs.length c1, Value.slice p2 a.nodes.length c2, Value.slice p3 a.leases.length c3] 26)).alloc (.cells #[Value.int .i64 b.rev, Value.slice q1 b.jobs.length d1, Value.slice q2 b.nodes.length d2, Value.slice q3 b.leases.length d3] 26)).alloc (.cells #[Value.int .i64 0, Value.int .i64 0, Value.slice none 0 0, Value.slice none 0 0, Value.slice none 0 0, Value.slice none 0 0, Value.slice none 0 0, Value.slice none 0 0] 30)).alloc (.cells #[Value.int .i64 a.rev, Value.slice p1 a.jobs.length c1, Value.slice p2 a.nodes.length c2, Value.slice p3 a.leases.length c3, Value.int .i64 b.rev, Value.slice q1 b.jobs.length d1, Value.slice q2 b.nodes.length d2, Value.slice q3 b.leases.length d3] 26) = W4 at *
      refine wp_loop_rounds 3 ?_
      rw [rounds_succ]
      go_wp2_with (first | (refine wpList_load_at rfl _ _ rfl ⟨w.heap.size + 1 + 1 + 1, 0, none⟩ rfl [Value.int .i64 a.rev, Value.slice p1 a.jobs.length c1, Value.slice p2 a.nodes.length c2, Value.slice p3 a.leases.length c3] _ hat0 Tryz.underlying26 rfl state_size ?_) | (refine wpList_store_new rfl _ _ _ rfl rfl 26 _ #[Value.int .i64 a.rev, Value.slice p1 a.jobs.length c1, Value.slice p2 a.nodes.length c2, Value.slice p3 a.leases.length c3] rfl state_size rfl (one_st4 _ _ _ _ _ _ _ _ _ _) ?_))
      have hBx := hB4.alloc hB4.size (.cells #[Value.int .i64 a.rev, Value.slice p1 a.jobs.length c1, Value.slice p2 a.nodes.length c2, Value.slice p3 a.leases.length c3] 26)
      have bA0 := bA.alloc (.cells #[Value.int .i64 a.rev, Value.slice p1 a.jobs.length c1, Value.slice p2 a.nodes.length c2, Value.slice p3 a.leases.length c3] 26)
      have bB0 := bB.alloc (.cells #[Value.int .i64 a.rev, Value.slice p1 a.jobs.length c1, Value.slice p2 a.nodes.length c2, Value.slice p3 a.leases.length c3] 26)
      have bR0 := bR.alloc (.cells #[Value.int .i64 a.rev, Value.slice p1 a.jobs.length c1, Value.slice p2 a.nodes.length c2, Value.slice p3 a.leases.length c3] 26)
      have hat1x := hat1.below ((Below.refl _ _).alloc (Nat.le_refl _) (.cells #[Value.int .i64 a.rev, Value.slice p1 a.jobs.length c1, Value.slice p2 a.nodes.length c2, Value.slice p3 a.leases.length c3] 26)) (show _ < _ from bL.lt)
      have bLx := bL.alloc (.cells #[Value.int .i64 a.rev, Value.slice p1 a.jobs.length c1, Value.slice p2 a.nodes.length c2, Value.slice p3 a.leases.length c3] 26)
      refine (HA.out _ hBx).mono ?_
      rintro e v0 ⟨rfl, hb0⟩
      have hBv0 := hBx.trans (hb0.mono hBx.size)
      have Av0 := bA0.below hb0 bA0.lt
      have Bv0 := bB0.below hb0 bB0.lt
      have Rv0 := bR0.below hb0 bR0.lt
      have hat1v := hat1x.below hb0 (show _ < _ from bLx.lt)
      clear bA0 bB0 bR0 hBx hat1x bLx
      go_wp2_with fail
      rw [rounds_succ]
      go_wp2_with (first | (refine wpList_load_at rfl _ _ rfl ⟨w.heap.size + 1 + 1 + 1, 4, none⟩ rfl [Value.int .i64 b.rev, Value.slice q1 b.jobs.length d1, Value.slice q2 b.nodes.length d2, Value.slice q3 b.leases.length d3] _ hat1v Tryz.underlying26 rfl state_size ?_) | (refine wpList_store_new rfl _ _ _ rfl rfl 26 _ #[Value.int .i64 b.rev, Value.slice q1 b.jobs.length d1, Value.slice q2 b.nodes.length d2, Value.slice q3 b.leases.length d3] rfl state_size rfl (one_st4 _ _ _ _ _ _ _ _ _ _) ?_))
      have hBx := hBv0.alloc hBv0.size (.cells #[Value.int .i64 b.rev, Value.slice q1 b.jobs.length d1, Value.slice q2 b.nodes.length d2, Value.slice q3 b.leases.length d3] 26)
      have bA1 := Av0.alloc (.cells #[Value.int .i64 b.rev, Value.slice q1 b.jobs.length d1, Value.slice q2 b.nodes.length d2, Value.slice q3 b.leases.length d3] 26)
      have bB1 := Bv0.alloc (.cells #[Value.int .i64 b.rev, Value.slice q1 b.jobs.length d1, Value.slice q2 b.nodes.length d2, Value.slice q3 b.leases.length d3] 26)
      have bR1 := Rv0.alloc (.cells #[Value.int .i64 b.rev, Value.slice q1 b.jobs.length d1, Value.slice q2 b.nodes.length d2, Value.slice q3 b.leases.length d3] 26)
      refine (HB.out _ hBx).mono ?_
      rintro e v1 ⟨rfl, hb1⟩
      have hBv1 := hBx.trans (hb1.mono hBx.size)
      have Av1 := bA1.below hb1 bA1.lt
      have Bv1 := bB1.below hb1 bB1.lt
      have Rv1 := bR1.below hb1 bR1.lt
      clear bA1 bB1 bR1 hBx
      go_wp2_with (first | (refine wpList_store_blk rfl _ _ _ rfl (w.heap.size + 1 + 1) rfl _ _ #[Value.int .i64 0, Value.int .i64 0, Value.slice none 0 0, Value.slice none 0 0, Value.slice none 0 0, Value.slice none 0 0, Value.slice none 0 0, Value.slice none 0 0] Rv1 rfl delta_size rfl (one_d8 _ _ _ _ _ _ _ _ _ _ _ _ _ _ _ _ _ _ _ _) ?_))
      refine bodyPost_ret (results_cell_tmp1 rfl _ rfl (Rv1.setRow #[Value.int .i64 0, Value.int .i64 0, Value.slice none 0 0, Value.slice none 0 0, Value.slice none 0 0, Value.slice none 0 0, Value.slice none 0 0, Value.slice none 0 0]) Tryz.underlying30 rfl delta_size) rfl ?_
      rw [hDD.out]
      rw [hfin.out, if_neg hfn.out]
      exact ⟨none, none, none, none, none, none, 0, 0, 0, 0, 0, 0, rfl, own_nilD _ _, below_setRow hBv1 (by omega) _⟩
    · have hcb0 : checkE b = 0 := by omega
      have HFB := Lib.hid ((fine_iff b).1 hcb0)
      have HB := HB.out
      rw [hcb0] at HB
      have HB := Lib.hid HB
      have hDE : Hid (diffE a b = if b.rev ≤ a.rev then 1 else 0) := Lib.hid (by rw [hDE.out, if_neg hcb])
      clear hcb hcb0
      by_cases hr : b.rev ≤ a.rev
      · have hfin := Lib.hid (show diffE a b = 1 from by rw [hDE.out, if_pos hr])
        go_enter Tryz.func17, Tryz.ntmps17
        go_wp2_with (first | (refine wpList_load_blk rfl _ _ rfl w.heap.size rfl _ #[Value.int .i64 a.rev, Value.slice p1 a.jobs.length c1, Value.slice p2 a.nodes.length c2, Value.slice p3 a.leases.length c3] bA _ Tryz.underlying26 rfl state_size ?_) | (refine wpList_load_blk rfl _ _ rfl (w.heap.size + 1) rfl _ #[Value.int .i64 b.rev, Value.slice q1 b.jobs.length d1, Value.slice q2 b.nodes.length d2, Value.slice q3 b.leases.length d3] bB _ Tryz.underlying26 rfl state_size ?_))
        have bA := bA.alloc (.cells #[Value.int .i64 a.rev, Value.slice p1 a.jobs.length c1, Value.slice p2 a.nodes.length c2, Value.slice p3 a.leases.length c3, Value.int .i64 b.rev, Value.slice q1 b.jobs.length d1, Value.slice q2 b.nodes.length d2, Value.slice q3 b.leases.length d3] 26)
        have bB := bB.alloc (.cells #[Value.int .i64 a.rev, Value.slice p1 a.jobs.length c1, Value.slice p2 a.nodes.length c2, Value.slice p3 a.leases.length c3, Value.int .i64 b.rev, Value.slice q1 b.jobs.length d1, Value.slice q2 b.nodes.length d2, Value.slice q3 b.leases.length d3] 26)
        have bR := bR.alloc (.cells #[Value.int .i64 a.rev, Value.slice p1 a.jobs.length c1, Value.slice p2 a.nodes.length c2, Value.slice p3 a.leases.length c3, Value.int .i64 b.rev, Value.slice q1 b.jobs.length d1, Value.slice q2 b.nodes.length d2, Value.slice q3 b.leases.length d3] 26)
        clear hB0
        generalize (((w.alloc (.cells #[Value.int .i64 a.rev, Value.slice p1 a.jobs.length c1, Value.slice p2 a.nodes.length c2, Value.slice p3 a.leases.length c3] 26)).alloc (.cells #[Value.int .i64 b.rev, Value.slice q1 b.jobs.length d1, Value.slice q2 b.nodes.length d2, Value.slice q3 b.leases.length d3] 26)).alloc (.cells #[Value.int .i64 0, Value.int .i64 0, Value.slice none 0 0, Value.slice none 0 0, Value.slice none 0 0, Value.slice none 0 0, Value.slice none 0 0, Value.slice none 0 0] 30)).alloc (.cells #[Value.int .i64 a.rev, Value.slice p1 a.jobs.length c1, Value.slice p2 a.nodes.length c2, Value.slice p3 a.leases.length c3, Value.int .i64 b.rev, Value.slice q1 b.jobs.length d1, Value.slice q2 b.nodes.length d2, Value.slice q3 b.leases.length d3] 26) = W4 at *
        refine wp_loop_rounds 3 ?_
        rw [rounds_succ]
        go_wp2_with (first | (refine wpList_load_at rfl _ _ rfl ⟨w.heap.size + 1 + 1 + 1, 0, none⟩ rfl [Value.int .i64 a.rev, Value.slice p1 a.jobs.length c1, Value.slice p2 a.nodes.length c2, Value.slice p3 a.leases.length c3] _ hat0 Tryz.underlying26 rfl state_size ?_) | (refine wpList_store_new rfl _ _ _ rfl rfl 26 _ #[Value.int .i64 a.rev, Value.slice p1 a.jobs.length c1, Value.slice p2 a.nodes.length c2, Value.slice p3 a.leases.length c3] rfl state_size rfl (one_st4 _ _ _ _ _ _ _ _ _ _) ?_))
        have hBx := hB4.alloc hB4.size (.cells #[Value.int .i64 a.rev, Value.slice p1 a.jobs.length c1, Value.slice p2 a.nodes.length c2, Value.slice p3 a.leases.length c3] 26)
        have bA0 := bA.alloc (.cells #[Value.int .i64 a.rev, Value.slice p1 a.jobs.length c1, Value.slice p2 a.nodes.length c2, Value.slice p3 a.leases.length c3] 26)
        have bB0 := bB.alloc (.cells #[Value.int .i64 a.rev, Value.slice p1 a.jobs.length c1, Value.slice p2 a.nodes.length c2, Value.slice p3 a.leases.length c3] 26)
        have bR0 := bR.alloc (.cells #[Value.int .i64 a.rev, Value.slice p1 a.jobs.length c1, Value.slice p2 a.nodes.length c2, Value.slice p3 a.leases.length c3] 26)
        have hat1x := hat1.below ((Below.refl _ _).alloc (Nat.le_refl _) (.cells #[Value.int .i64 a.rev, Value.slice p1 a.jobs.length c1, Value.slice p2 a.nodes.length c2, Value.slice p3 a.leases.length c3] 26)) (show _ < _ from bL.lt)
        have bLx := bL.alloc (.cells #[Value.int .i64 a.rev, Value.slice p1 a.jobs.length c1, Value.slice p2 a.nodes.length c2, Value.slice p3 a.leases.length c3] 26)
        refine (HA.out _ hBx).mono ?_
        rintro e v0 ⟨rfl, hb0⟩
        have hBv0 := hBx.trans (hb0.mono hBx.size)
        have Av0 := bA0.below hb0 bA0.lt
        have Bv0 := bB0.below hb0 bB0.lt
        have Rv0 := bR0.below hb0 bR0.lt
        have hat1v := hat1x.below hb0 (show _ < _ from bLx.lt)
        clear bA0 bB0 bR0 hBx hat1x bLx
        go_wp2_with fail
        rw [rounds_succ]
        go_wp2_with (first | (refine wpList_load_at rfl _ _ rfl ⟨w.heap.size + 1 + 1 + 1, 4, none⟩ rfl [Value.int .i64 b.rev, Value.slice q1 b.jobs.length d1, Value.slice q2 b.nodes.length d2, Value.slice q3 b.leases.length d3] _ hat1v Tryz.underlying26 rfl state_size ?_) | (refine wpList_store_new rfl _ _ _ rfl rfl 26 _ #[Value.int .i64 b.rev, Value.slice q1 b.jobs.length d1, Value.slice q2 b.nodes.length d2, Value.slice q3 b.leases.length d3] rfl state_size rfl (one_st4 _ _ _ _ _ _ _ _ _ _) ?_))
        have hBx := hBv0.alloc hBv0.size (.cells #[Value.int .i64 b.rev, Value.slice q1 b.jobs.length d1, Value.slice q2 b.nodes.length d2, Value.slice q3 b.leases.length d3] 26)
        have bA1 := Av0.alloc (.cells #[Value.int .i64 b.rev, Value.slice q1 b.jobs.length d1, Value.slice q2 b.nodes.length d2, Value.slice q3 b.leases.length d3] 26)
        have bB1 := Bv0.alloc (.cells #[Value.int .i64 b.rev, Value.slice q1 b.jobs.length d1, Value.slice q2 b.nodes.length d2, Value.slice q3 b.leases.length d3] 26)
        have bR1 := Rv0.alloc (.cells #[Value.int .i64 b.rev, Value.slice q1 b.jobs.length d1, Value.slice q2 b.nodes.length d2, Value.slice q3 b.leases.length d3] 26)
        refine (HB.out _ hBx).mono ?_
        rintro e v1 ⟨rfl, hb1⟩
        have hBv1 := hBx.trans (hb1.mono hBx.size)
        have Av1 := bA1.below hb1 bA1.lt
        have Bv1 := bB1.below hb1 bB1.lt
        have Rv1 := bR1.below hb1 bR1.lt
        clear bA1 bB1 bR1 hBx
        go_wp2_with fail
        rw [rounds_succ]
        have x1 : v1.cell? ⟨w.heap.size, 0, none⟩ = some (.int .i64 a.rev) := Av1.cell 0
        have x2 : v1.cell? ⟨w.heap.size + 1, 0, none⟩ = some (.int .i64 b.rev) := Bv1.cell 0
        go_wp2_with (first | (refine wpList_store_blk rfl _ _ _ rfl (w.heap.size + 1 + 1) rfl _ _ #[Value.int .i64 0, Value.int .i64 0, Value.slice none 0 0, Value.slice none 0 0, Value.slice none 0 0, Value.slice none 0 0, Value.slice none 0 0, Value.slice none 0 0] Rv1 rfl delta_size rfl (one_d8 _ _ _ _ _ _ _ _ _ _ _ _ _ _ _ _ _ _ _ _) ?_))
        refine bodyPost_ret (results_cell_tmp1 rfl _ rfl (Rv1.setRow #[Value.int .i64 0, Value.int .i64 0, Value.slice none 0 0, Value.slice none 0 0, Value.slice none 0 0, Value.slice none 0 0, Value.slice none 0 0, Value.slice none 0 0]) Tryz.underlying30 rfl delta_size) rfl ?_
        rw [hDD.out]
        rw [hfin.out, if_neg (by decide)]
        exact ⟨none, none, none, none, none, none, 0, 0, 0, 0, 0, 0, rfl, own_nilD _ _, below_setRow hBv1 (by omega) _⟩
      · have hfin := Lib.hid (show diffE a b = 0 from by rw [hDE.out, if_neg hr])
        go_enter Tryz.func17, Tryz.ntmps17
        go_wp2_with (first | (refine wpList_load_blk rfl _ _ rfl w.heap.size rfl _ #[Value.int .i64 a.rev, Value.slice p1 a.jobs.length c1, Value.slice p2 a.nodes.length c2, Value.slice p3 a.leases.length c3] bA _ Tryz.underlying26 rfl state_size ?_) | (refine wpList_load_blk rfl _ _ rfl (w.heap.size + 1) rfl _ #[Value.int .i64 b.rev, Value.slice q1 b.jobs.length d1, Value.slice q2 b.nodes.length d2, Value.slice q3 b.leases.length d3] bB _ Tryz.underlying26 rfl state_size ?_))
        have bA := bA.alloc (.cells #[Value.int .i64 a.rev, Value.slice p1 a.jobs.length c1, Value.slice p2 a.nodes.length c2, Value.slice p3 a.leases.length c3, Value.int .i64 b.rev, Value.slice q1 b.jobs.length d1, Value.slice q2 b.nodes.length d2, Value.slice q3 b.leases.length d3] 26)
        have bB := bB.alloc (.cells #[Value.int .i64 a.rev, Value.slice p1 a.jobs.length c1, Value.slice p2 a.nodes.length c2, Value.slice p3 a.leases.length c3, Value.int .i64 b.rev, Value.slice q1 b.jobs.length d1, Value.slice q2 b.nodes.length d2, Value.slice q3 b.leases.length d3] 26)
        have bR := bR.alloc (.cells #[Value.int .i64 a.rev, Value.slice p1 a.jobs.length c1, Value.slice p2 a.nodes.length c2, Value.slice p3 a.leases.length c3, Value.int .i64 b.rev, Value.slice q1 b.jobs.length d1, Value.slice q2 b.nodes.length d2, Value.slice q3 b.leases.length d3] 26)
        clear hB0
        generalize (((w.alloc (.cells #[Value.int .i64 a.rev, Value.slice p1 a.jobs.length c1, Value.slice p2 a.nodes.length c2, Value.slice p3 a.leases.length c3] 26)).alloc (.cells #[Value.int .i64 b.rev, Value.slice q1 b.jobs.length d1, Value.slice q2 b.nodes.length d2, Value.slice q3 b.leases.length d3] 26)).alloc (.cells #[Value.int .i64 0, Value.int .i64 0, Value.slice none 0 0, Value.slice none 0 0, Value.slice none 0 0, Value.slice none 0 0, Value.slice none 0 0, Value.slice none 0 0] 30)).alloc (.cells #[Value.int .i64 a.rev, Value.slice p1 a.jobs.length c1, Value.slice p2 a.nodes.length c2, Value.slice p3 a.leases.length c3, Value.int .i64 b.rev, Value.slice q1 b.jobs.length d1, Value.slice q2 b.nodes.length d2, Value.slice q3 b.leases.length d3] 26) = W4 at *
        refine wp_loop_rounds 3 ?_
        rw [rounds_succ]
        go_wp2_with (first | (refine wpList_load_at rfl _ _ rfl ⟨w.heap.size + 1 + 1 + 1, 0, none⟩ rfl [Value.int .i64 a.rev, Value.slice p1 a.jobs.length c1, Value.slice p2 a.nodes.length c2, Value.slice p3 a.leases.length c3] _ hat0 Tryz.underlying26 rfl state_size ?_) | (refine wpList_store_new rfl _ _ _ rfl rfl 26 _ #[Value.int .i64 a.rev, Value.slice p1 a.jobs.length c1, Value.slice p2 a.nodes.length c2, Value.slice p3 a.leases.length c3] rfl state_size rfl (one_st4 _ _ _ _ _ _ _ _ _ _) ?_))
        have hBx := hB4.alloc hB4.size (.cells #[Value.int .i64 a.rev, Value.slice p1 a.jobs.length c1, Value.slice p2 a.nodes.length c2, Value.slice p3 a.leases.length c3] 26)
        have bA0 := bA.alloc (.cells #[Value.int .i64 a.rev, Value.slice p1 a.jobs.length c1, Value.slice p2 a.nodes.length c2, Value.slice p3 a.leases.length c3] 26)
        have bB0 := bB.alloc (.cells #[Value.int .i64 a.rev, Value.slice p1 a.jobs.length c1, Value.slice p2 a.nodes.length c2, Value.slice p3 a.leases.length c3] 26)
        have bR0 := bR.alloc (.cells #[Value.int .i64 a.rev, Value.slice p1 a.jobs.length c1, Value.slice p2 a.nodes.length c2, Value.slice p3 a.leases.length c3] 26)
        have hat1x := hat1.below ((Below.refl _ _).alloc (Nat.le_refl _) (.cells #[Value.int .i64 a.rev, Value.slice p1 a.jobs.length c1, Value.slice p2 a.nodes.length c2, Value.slice p3 a.leases.length c3] 26)) (show _ < _ from bL.lt)
        have bLx := bL.alloc (.cells #[Value.int .i64 a.rev, Value.slice p1 a.jobs.length c1, Value.slice p2 a.nodes.length c2, Value.slice p3 a.leases.length c3] 26)
        refine (HA.out _ hBx).mono ?_
        rintro e v0 ⟨rfl, hb0⟩
        have hBv0 := hBx.trans (hb0.mono hBx.size)
        have Av0 := bA0.below hb0 bA0.lt
        have Bv0 := bB0.below hb0 bB0.lt
        have Rv0 := bR0.below hb0 bR0.lt
        have hat1v := hat1x.below hb0 (show _ < _ from bLx.lt)
        clear bA0 bB0 bR0 hBx hat1x bLx
        go_wp2_with fail
        rw [rounds_succ]
        go_wp2_with (first | (refine wpList_load_at rfl _ _ rfl ⟨w.heap.size + 1 + 1 + 1, 4, none⟩ rfl [Value.int .i64 b.rev, Value.slice q1 b.jobs.length d1, Value.slice q2 b.nodes.length d2, Value.slice q3 b.leases.length d3] _ hat1v Tryz.underlying26 rfl state_size ?_) | (refine wpList_store_new rfl _ _ _ rfl rfl 26 _ #[Value.int .i64 b.rev, Value.slice q1 b.jobs.length d1, Value.slice q2 b.nodes.length d2, Value.slice q3 b.leases.length d3] rfl state_size rfl (one_st4 _ _ _ _ _ _ _ _ _ _) ?_))
        have hBx := hBv0.alloc hBv0.size (.cells #[Value.int .i64 b.rev, Value.slice q1 b.jobs.length d1, Value.slice q2 b.nodes.length d2, Value.slice q3 b.leases.length d3] 26)
        have bA1 := Av0.alloc (.cells #[Value.int .i64 b.rev, Value.slice q1 b.jobs.length d1, Value.slice q2 b.nodes.length d2, Value.slice q3 b.leases.length d3] 26)
        have bB1 := Bv0.alloc (.cells #[Value.int .i64 b.rev, Value.slice q1 b.jobs.length d1, Value.slice q2 b.nodes.length d2, Value.slice q3 b.leases.length d3] 26)
        have bR1 := Rv0.alloc (.cells #[Value.int .i64 b.rev, Value.slice q1 b.jobs.length d1, Value.slice q2 b.nodes.length d2, Value.slice q3 b.leases.length d3] 26)
        refine (HB.out _ hBx).mono ?_
        rintro e v1 ⟨rfl, hb1⟩
        have hBv1 := hBx.trans (hb1.mono hBx.size)
        have Av1 := bA1.below hb1 bA1.lt
        have Bv1 := bB1.below hb1 bB1.lt
        have Rv1 := bR1.below hb1 bR1.lt
        clear bA1 bB1 bR1 hBx
        go_wp2_with fail
        rw [rounds_succ]
        have x1 : v1.cell? ⟨w.heap.size, 0, none⟩ = some (.int .i64 a.rev) := Av1.cell 0
        have x2 : v1.cell? ⟨w.heap.size + 1, 0, none⟩ = some (.int .i64 b.rev) := Bv1.cell 0
        go_wp2_with (first | (refine wpList_load_blk rfl _ _ rfl w.heap.size rfl _ #[Value.int .i64 a.rev, Value.slice p1 a.jobs.length c1, Value.slice p2 a.nodes.length c2, Value.slice p3 a.leases.length c3] Av1 _ Tryz.underlying26 rfl state_size ?_) | (refine wpList_load_blk rfl _ _ rfl (w.heap.size + 1) rfl _ #[Value.int .i64 b.rev, Value.slice q1 b.jobs.length d1, Value.slice q2 b.nodes.length d2, Value.slice q3 b.leases.length d3] Bv1 _ Tryz.underlying26 rfl state_size ?_))
        have fj := HFA.out.nj; have fn := HFA.out.nn; have fl := HFA.out.nl; have gj := HFB.out.nj; have gn := HFB.out.nn; have gl := HFB.out.nl
        refine (HW.out _ hBv1 ⟨by omega, by omega⟩ ⟨by omega, by omega⟩ ⟨by omega, by omega⟩).mono ?_
        rintro e v2 ⟨r1, r2, r3, r4, r5, r6, e1, e2, e3, e4, e5, e6, rfl, hO, hb2⟩
        have hBv2 := hBv1.trans (hb2.mono hBv1.size)
        have Rv2 := Rv1.below hb2 Rv1.lt
        have hRlt := Rv1.lt
        have hbt : betw a b = diffD a b := by rw [hDD.out, if_pos hfin.out]
        obtain ⟨dd, hdd⟩ : ∃ dd, diffD a b = dd := ⟨_, rfl⟩
        rw [hdd] at hbt
        rw [hbt] at hO ⊢
        clear hbt
        go_wp2_with (first | (refine wpList_store_blk rfl _ _ _ rfl (w.heap.size + 1 + 1) rfl _ _ #[Value.int .i64 dd.frm, Value.int .i64 dd.upto, Value.slice r1 dd.jobs.length e1, Value.slice r2 dd.nodes.length e2, Value.slice r3 dd.leases.length e3, Value.slice r4 dd.gj.length e4, Value.slice r5 dd.gn.length e5, Value.slice r6 dd.gl.length e6] Rv2 rfl delta_size rfl (one_d8 _ _ _ _ _ _ _ _ _ _ _ _ _ _ _ _ _ _ _ _) ?_))
        refine bodyPost_ret (results_cell_tmp1 rfl _ rfl (Rv2.setRow #[Value.int .i64 dd.frm, Value.int .i64 dd.upto, Value.slice r1 dd.jobs.length e1, Value.slice r2 dd.nodes.length e2, Value.slice r3 dd.leases.length e3, Value.slice r4 dd.gj.length e4, Value.slice r5 dd.gn.length e5, Value.slice r6 dd.gl.length e6]) Tryz.underlying30 rfl delta_size) rfl ?_
        rw [hfin.out, hdd]
        have hlo : w.heap.size ≤ v1.heap.size := hBv1.size
        exact ⟨r1, r2, r3, r4, r5, r6, e1, e2, e3, e4, e5, e6, rfl, ⟨(hO.j.row_ hRlt _).lower hlo, (hO.n.row_ hRlt _).lower hlo, (hO.l.row_ hRlt _).lower hlo, (hO.gj.row_ hRlt _).lower hlo, (hO.gn.row_ hRlt _).lower hlo, (hO.gl.row_ hRlt _).lower hlo⟩, below_setRow hBv2 (by omega) _⟩
end Go.Proofs.YtkommikehbbhbaaGreatDoor

/-
  The laws' own fact 'differed' of the deltas.
-/
set_option linter.unusedVariables false
set_option linter.unusedSimpArgs false
namespace Go.Proofs.YtkommikehbbhbaaGreatDoor
open Go.RowKit
def sampleB : St := { sampleS with rev := 9, leases := [] }
def sampleD : DeltaD := ⟨4, 9, [], [], [], [], [], [⟨#[97]⟩]⟩
theorem sample_diffE : diffE sampleS sampleB = 0 := by decide +kernel
theorem sample_diffD : diffD sampleS sampleB = sampleD := by decide +kernel
theorem sampleB_sz : StSz sampleB := by
  refine ⟨?_, ?_, ?_, by decide, by decide, by decide⟩
  all_goals decide +kernel
theorem del_laid {w w0 : World} {base B g : Nat} {r1 r2 r3 r4 r5 r6 : Option Addr} {e1 e2 e3 e4 e5 e6 : Nat} {d : DeltaD} (h : DelOwn w base r1 r2 r3 r4 r5 r6 e1 e2 e3 e4 e5 e6 d) (hg : g < base) (b : Blk w g 30 #[.int .i64 0, .int .i64 0, .slice none 0 0, .slice none 0 0, .slice none 0 0, .slice none 0 0, .slice none 0 0, .slice none 0 0]) (hb : Below B w0 w) (hg2 : B ≤ g) (v0 v1 v2 v3 v4 v5 v6 v7 : Value) :
    Blk (((((((((w).setCell ⟨g, 0, none⟩ v0).setCell ⟨g, 1, none⟩ v1).setCell ⟨g, 2, none⟩ v2).setCell ⟨g, 3, none⟩ v3).setCell ⟨g, 4, none⟩ v4).setCell ⟨g, 5, none⟩ v5).setCell ⟨g, 6, none⟩ v6).setCell ⟨g, 7, none⟩ v7) g 30 #[v0, v1, v2, v3, v4, v5, v6, v7] ∧ DelOwn (((((((((w).setCell ⟨g, 0, none⟩ v0).setCell ⟨g, 1, none⟩ v1).setCell ⟨g, 2, none⟩ v2).setCell ⟨g, 3, none⟩ v3).setCell ⟨g, 4, none⟩ v4).setCell ⟨g, 5, none⟩ v5).setCell ⟨g, 6, none⟩ v6).setCell ⟨g, 7, none⟩ v7) base r1 r2 r3 r4 r5 r6 e1 e2 e3 e4 e5 e6 d ∧ Below B w0 (((((((((w).setCell ⟨g, 0, none⟩ v0).setCell ⟨g, 1, none⟩ v1).setCell ⟨g, 2, none⟩ v2).setCell ⟨g, 3, none⟩ v3).setCell ⟨g, 4, none⟩ v4).setCell ⟨g, 5, none⟩ v5).setCell ⟨g, 6, none⟩ v6).setCell ⟨g, 7, none⟩ v7) :=
  ⟨(by have h8 := ((((((((b).set_ 0 v0).set_ 1 v1).set_ 2 v2).set_ 3 v3).set_ 4 v4).set_ 5 v5).set_ 6 v6).set_ 7 v7; simpa using h8), ⟨((((((((h.j).cell_ (a := ⟨g, 0, none⟩) hg v0).cell_ (a := ⟨g, 1, none⟩) hg v1).cell_ (a := ⟨g, 2, none⟩) hg v2).cell_ (a := ⟨g, 3, none⟩) hg v3).cell_ (a := ⟨g, 4, none⟩) hg v4).cell_ (a := ⟨g, 5, none⟩) hg v5).cell_ (a := ⟨g, 6, none⟩) hg v6).cell_ (a := ⟨g, 7, none⟩) hg v7, ((((((((h.n).cell_ (a := ⟨g, 0, none⟩) hg v0).cell_ (a := ⟨g, 1, none⟩) hg v1).cell_ (a := ⟨g, 2, none⟩) hg v2).cell_ (a := ⟨g, 3, none⟩) hg v3).cell_ (a := ⟨g, 4, none⟩) hg v4).cell_ (a := ⟨g, 5, none⟩) hg v5).cell_ (a := ⟨g, 6, none⟩) hg v6).cell_ (a := ⟨g, 7, none⟩) hg v7, ((((((((h.l).cell_ (a := ⟨g, 0, none⟩) hg v0).cell_ (a := ⟨g, 1, none⟩) hg v1).cell_ (a := ⟨g, 2, none⟩) hg v2).cell_ (a := ⟨g, 3, none⟩) hg v3).cell_ (a := ⟨g, 4, none⟩) hg v4).cell_ (a := ⟨g, 5, none⟩) hg v5).cell_ (a := ⟨g, 6, none⟩) hg v6).cell_ (a := ⟨g, 7, none⟩) hg v7, ((((((((h.gj).cell_ (a := ⟨g, 0, none⟩) hg v0).cell_ (a := ⟨g, 1, none⟩) hg v1).cell_ (a := ⟨g, 2, none⟩) hg v2).cell_ (a := ⟨g, 3, none⟩) hg v3).cell_ (a := ⟨g, 4, none⟩) hg v4).cell_ (a := ⟨g, 5, none⟩) hg v5).cell_ (a := ⟨g, 6, none⟩) hg v6).cell_ (a := ⟨g, 7, none⟩) hg v7, ((((((((h.gn).cell_ (a := ⟨g, 0, none⟩) hg v0).cell_ (a := ⟨g, 1, none⟩) hg v1).cell_ (a := ⟨g, 2, none⟩) hg v2).cell_ (a := ⟨g, 3, none⟩) hg v3).cell_ (a := ⟨g, 4, none⟩) hg v4).cell_ (a := ⟨g, 5, none⟩) hg v5).cell_ (a := ⟨g, 6, none⟩) hg v6).cell_ (a := ⟨g, 7, none⟩) hg v7, ((((((((h.gl).cell_ (a := ⟨g, 0, none⟩) hg v0).cell_ (a := ⟨g, 1, none⟩) hg v1).cell_ (a := ⟨g, 2, none⟩) hg v2).cell_ (a := ⟨g, 3, none⟩) hg v3).cell_ (a := ⟨g, 4, none⟩) hg v4).cell_ (a := ⟨g, 5, none⟩) hg v5).cell_ (a := ⟨g, 6, none⟩) hg v6).cell_ (a := ⟨g, 7, none⟩) hg v7⟩, ((((((((hb).setCell (p := ⟨g, 0, none⟩) hg2 v0).setCell (p := ⟨g, 1, none⟩) hg2 v1).setCell (p := ⟨g, 2, none⟩) hg2 v2).setCell (p := ⟨g, 3, none⟩) hg2 v3).setCell (p := ⟨g, 4, none⟩) hg2 v4).setCell (p := ⟨g, 5, none⟩) hg2 v5).setCell (p := ⟨g, 6, none⟩) hg2 v6).setCell (p := ⟨g, 7, none⟩) hg2 v7⟩
theorem sampleDiff_any (p1 p2 p3 q1 q2 q3 : Option Addr) (c1 c2 c3 d1 d2 d3 : Nat) (W : World) (h1 : StM W W.heap.size p1 p2 p3 sampleS) (h2 : StM W W.heap.size q1 q2 q3 sampleB) (hT : Tabs W) :
    Calls Tryz.prog 17 #[.agg #[.int .i64 4, .slice p1 2 c1, .slice p2 1 c2, .slice p3 1 c3], .agg #[.int .i64 9, .slice q1 2 d1, .slice q2 1 d2, .slice q3 0 d3]] W fun e w' =>
      ∃ (r1 r2 r3 r4 r5 r6 : Option Addr) (e1 e2 e3 e4 e5 e6 : Nat), e = .returned (.tuple #[.agg #[Value.int .i64 4, Value.int .i64 9, Value.slice r1 0 e1, Value.slice r2 0 e2, Value.slice r3 0 e3, Value.slice r4 0 e4, Value.slice r5 0 e5, Value.slice r6 1 e6], .int .i64 0]) ∧ DelOwn w' W.heap.size r1 r2 r3 r4 r5 r6 e1 e2 e3 e4 e5 e6 sampleD ∧ Below W.heap.size W w' := by
  have h := diff_any sampleS sampleB p1 p2 p3 q1 q2 q3 c1 c2 c3 d1 d2 d3 W h1 h2 sampleS_sz sampleB_sz hT
  rw [sample_diffE, sample_diffD] at h
  refine Calls.mono (show Calls Tryz.prog 17 #[.agg #[.int .i64 4, .slice p1 2 c1, .slice p2 1 c2, .slice p3 1 c3], .agg #[.int .i64 9, .slice q1 2 d1, .slice q2 1 d2, .slice q3 0 d3]] W _ from h) ?_
  rintro e w' ⟨r1, r2, r3, r4, r5, r6, e1, e2, e3, e4, e5, e6, rfl, hO, hb⟩
  exact ⟨r1, r2, r3, r4, r5, r6, e1, e2, e3, e4, e5, e6, rfl, hO, hb⟩
set_option maxHeartbeats 4000000 in
set_option maxRecDepth 100000 in
theorem differed_any (w : World) (hT : Tabs w) : Calls Tryz.prog 16 #[] w fun e w' => e = .returned (.bool true) ∧ Below w.heap.size w w' := by
  have hzs := zero_state_lit
  have hzd := zero_delta_lit
  go_enter Tryz.func16, Tryz.ntmps16
  go_wp2_with fail
  refine (sample_any _).mono ?_
  rintro e w1 ⟨bj, bn, bl, rfl, b1, b2, b3, hb1, hbl⟩
  have h1 := b1.lt
  have h2 := b2.lt
  go_upto_region 4 with (fail)
  have bS := Blk.new w1 26 #[Value.int .i64 9, Value.slice (some ⟨bj, 0, none⟩) 2 2, Value.slice (some ⟨bn, 0, none⟩) 1 1, Value.slice none 0 0]
  have hB5 := hb1.alloc hb1.size (.cells #[Value.int .i64 9, Value.slice (some ⟨bj, 0, none⟩) 2 2, Value.slice (some ⟨bn, 0, none⟩) 1 1, Value.slice none 0 0] 26)
  have b15 := b1.alloc (.cells #[Value.int .i64 9, Value.slice (some ⟨bj, 0, none⟩) 2 2, Value.slice (some ⟨bn, 0, none⟩) 1 1, Value.slice none 0 0] 26)
  have b25 := b2.alloc (.cells #[Value.int .i64 9, Value.slice (some ⟨bj, 0, none⟩) 2 2, Value.slice (some ⟨bn, 0, none⟩) 1 1, Value.slice none 0 0] 26)
  clear b1 b2 b3 hb1
  generalize w1.alloc (.cells #[Value.int .i64 9, Value.slice (some ⟨bj, 0, none⟩) 2 2, Value.slice (some ⟨bn, 0, none⟩) 1 1, Value.slice none 0 0] 26) = W5 at *
  go_cut [2, 3] (fun pd er wx => ∃ (g : Nat) (r1 r2 r3 r4 r5 r6 : Option Addr) (e1 e2 e3 e4 e5 e6 : Nat), pd = .pointer (some ⟨g, 0, none⟩) ∧ er = .int .i64 0 ∧ Blk wx g 30 #[Value.int .i64 4, Value.int .i64 9, Value.slice r1 0 e1, Value.slice r2 0 e2, Value.slice r3 0 e3, Value.slice r4 0 e4, Value.slice r5 0 e5, Value.slice r6 1 e6] ∧ DelM wx wx.heap.size r1 r2 r3 r4 r5 r6 sampleD ∧ Below w.heap.size w wx)
  case first =>
    have h50 : Below W5.heap.size W5 W5.drew := (Below.refl _ _).drew
    have h5Z := h50.alloc (Nat.le_refl _) (.cells #[Value.int .i64 0, Value.int .i64 0, Value.slice none 0 0, Value.slice none 0 0, Value.slice none 0 0, Value.slice none 0 0, Value.slice none 0 0, Value.slice none 0 0] 30)
    have x0 : W5.drew.cell? ⟨w1.heap.size, 0, none⟩ = some (Value.int .i64 9) := bS.cell 0
    have u0 : (W5.alloc (.cells #[Value.int .i64 0, Value.int .i64 0, Value.slice none 0 0, Value.slice none 0 0, Value.slice none 0 0, Value.slice none 0 0, Value.slice none 0 0, Value.slice none 0 0] 30)).cell? ⟨w1.heap.size, 0, none⟩ = some (Value.int .i64 9) := (bS.alloc _).cell 0
    have x1 : W5.drew.cell? ⟨w1.heap.size, 1, none⟩ = some (Value.slice (some ⟨bj, 0, none⟩) 2 2) := bS.cell 1
    have u1 : (W5.alloc (.cells #[Value.int .i64 0, Value.int .i64 0, Value.slice none 0 0, Value.slice none 0 0, Value.slice none 0 0, Value.slice none 0 0, Value.slice none 0 0, Value.slice none 0 0] 30)).cell? ⟨w1.heap.size, 1, none⟩ = some (Value.slice (some ⟨bj, 0, none⟩) 2 2) := (bS.alloc _).cell 1
    have x2 : W5.drew.cell? ⟨w1.heap.size, 2, none⟩ = some (Value.slice (some ⟨bn, 0, none⟩) 1 1) := bS.cell 2
    have u2 : (W5.alloc (.cells #[Value.int .i64 0, Value.int .i64 0, Value.slice none 0 0, Value.slice none 0 0, Value.slice none 0 0, Value.slice none 0 0, Value.slice none 0 0, Value.slice none 0 0] 30)).cell? ⟨w1.heap.size, 2, none⟩ = some (Value.slice (some ⟨bn, 0, none⟩) 1 1) := (bS.alloc _).cell 2
    have x3 : W5.drew.cell? ⟨w1.heap.size, 3, none⟩ = some (Value.slice none 0 0) := bS.cell 3
    have u3 : (W5.alloc (.cells #[Value.int .i64 0, Value.int .i64 0, Value.slice none 0 0, Value.slice none 0 0, Value.slice none 0 0, Value.slice none 0 0, Value.slice none 0 0, Value.slice none 0 0] 30)).cell? ⟨w1.heap.size, 3, none⟩ = some (Value.slice none 0 0) := (bS.alloc _).cell 3
    have HDif := Lib.hid (fun (p1 p2 p3 q1 q2 q3 : Option Addr) (c1 c2 c3 d1 d2 d3 : Nat) (W : World) (hW : Below w.heap.size w W) (h1 : StM W W.heap.size p1 p2 p3 sampleS) (h2 : StM W W.heap.size q1 q2 q3 sampleB) => sampleDiff_any p1 p2 p3 q1 q2 q3 c1 c2 c3 d1 d2 d3 W h1 h2 (hT.below hW))
    clear hT
    go_region_law (first
      | (go_simp; go_at_call 40; refine (sample_any (W5.drew)).mono ?_; rintro e w2 ⟨cj, cn, cl, rfl, s1, s2, s3, hb2, hcl⟩; have h52 : Below W5.heap.size W5 w2 := h50.trans hb2; have hB2 := hB5.trans (h52.mono hB5.size); have bS2 := bS.below h52 bS.lt; have m1 := b15.below h52 b15.lt; have m2 := b25.below h52 b25.lt; have y0 : w2.cell? ⟨w1.heap.size, 0, none⟩ = some (Value.int .i64 9) := bS2.cell 0; have v0 : (w2.alloc (.cells #[Value.int .i64 0, Value.int .i64 0, Value.slice none 0 0, Value.slice none 0 0, Value.slice none 0 0, Value.slice none 0 0, Value.slice none 0 0, Value.slice none 0 0] 30)).cell? ⟨w1.heap.size, 0, none⟩ = some (Value.int .i64 9) := (bS2.alloc _).cell 0; have y1 : w2.cell? ⟨w1.heap.size, 1, none⟩ = some (Value.slice (some ⟨bj, 0, none⟩) 2 2) := bS2.cell 1; have v1 : (w2.alloc (.cells #[Value.int .i64 0, Value.int .i64 0, Value.slice none 0 0, Value.slice none 0 0, Value.slice none 0 0, Value.slice none 0 0, Value.slice none 0 0, Value.slice none 0 0] 30)).cell? ⟨w1.heap.size, 1, none⟩ = some (Value.slice (some ⟨bj, 0, none⟩) 2 2) := (bS2.alloc _).cell 1; have y2 : w2.cell? ⟨w1.heap.size, 2, none⟩ = some (Value.slice (some ⟨bn, 0, none⟩) 1 1) := bS2.cell 2; have v2 : (w2.alloc (.cells #[Value.int .i64 0, Value.int .i64 0, Value.slice none 0 0, Value.slice none 0 0, Value.slice none 0 0, Value.slice none 0 0, Value.slice none 0 0, Value.slice none 0 0] 30)).cell? ⟨w1.heap.size, 2, none⟩ = some (Value.slice (some ⟨bn, 0, none⟩) 1 1) := (bS2.alloc _).cell 2; have y3 : w2.cell? ⟨w1.heap.size, 3, none⟩ = some (Value.slice none 0 0) := bS2.cell 3; have v3 : (w2.alloc (.cells #[Value.int .i64 0, Value.int .i64 0, Value.slice none 0 0, Value.slice none 0 0, Value.slice none 0 0, Value.slice none 0 0, Value.slice none 0 0, Value.slice none 0 0] 30)).cell? ⟨w1.heap.size, 3, none⟩ = some (Value.slice none 0 0) := (bS2.alloc _).cell 3; have HD := Lib.hid (fun (W : World) (hW : Below w2.heap.size w2 W) => HDif.out (some ⟨cj, 0, none⟩) (some ⟨cn, 0, none⟩) (some ⟨cl, 0, none⟩) (some ⟨bj, 0, none⟩) (some ⟨bn, 0, none⟩) none 2 1 1 2 1 0 W (hB2.trans (hW.mono hB2.size)) ⟨.of_blk (by decide) (s1.below hW s1.lt) rfl, .of_blk (by decide) (s2.below hW s2.lt) rfl, .of_blk (by decide) (s3.below hW s3.lt) rfl⟩ ⟨.of_blk (by decide) (m1.below hW m1.lt) rfl, .of_blk (by decide) (m2.below hW m2.lt) rfl, Elts.nil_⟩))
      | (go_simp; go_at_call 40; refine (sample_any (W5.drew.alloc (.cells #[Value.int .i64 0, Value.int .i64 0, Value.slice none 0 0, Value.slice none 0 0, Value.slice none 0 0, Value.slice none 0 0, Value.slice none 0 0, Value.slice none 0 0] 30))).mono ?_; rintro e w2 ⟨cj, cn, cl, rfl, s1, s2, s3, hb2, hcl⟩; have h52 : Below W5.heap.size W5 w2 := h5Z.trans (hb2.mono (by simp)); have hB2 := hB5.trans (h52.mono hB5.size); have bS2 := bS.below h52 bS.lt; have m1 := b15.below h52 b15.lt; have m2 := b25.below h52 b25.lt; have y0 : w2.cell? ⟨w1.heap.size, 0, none⟩ = some (Value.int .i64 9) := bS2.cell 0; have v0 : (w2.alloc (.cells #[Value.int .i64 0, Value.int .i64 0, Value.slice none 0 0, Value.slice none 0 0, Value.slice none 0 0, Value.slice none 0 0, Value.slice none 0 0, Value.slice none 0 0] 30)).cell? ⟨w1.heap.size, 0, none⟩ = some (Value.int .i64 9) := (bS2.alloc _).cell 0; have y1 : w2.cell? ⟨w1.heap.size, 1, none⟩ = some (Value.slice (some ⟨bj, 0, none⟩) 2 2) := bS2.cell 1; have v1 : (w2.alloc (.cells #[Value.int .i64 0, Value.int .i64 0, Value.slice none 0 0, Value.slice none 0 0, Value.slice none 0 0, Value.slice none 0 0, Value.slice none 0 0, Value.slice none 0 0] 30)).cell? ⟨w1.heap.size, 1, none⟩ = some (Value.slice (some ⟨bj, 0, none⟩) 2 2) := (bS2.alloc _).cell 1; have y2 : w2.cell? ⟨w1.heap.size, 2, none⟩ = some (Value.slice (some ⟨bn, 0, none⟩) 1 1) := bS2.cell 2; have v2 : (w2.alloc (.cells #[Value.int .i64 0, Value.int .i64 0, Value.slice none 0 0, Value.slice none 0 0, Value.slice none 0 0, Value.slice none 0 0, Value.slice none 0 0, Value.slice none 0 0] 30)).cell? ⟨w1.heap.size, 2, none⟩ = some (Value.slice (some ⟨bn, 0, none⟩) 1 1) := (bS2.alloc _).cell 2; have y3 : w2.cell? ⟨w1.heap.size, 3, none⟩ = some (Value.slice none 0 0) := bS2.cell 3; have v3 : (w2.alloc (.cells #[Value.int .i64 0, Value.int .i64 0, Value.slice none 0 0, Value.slice none 0 0, Value.slice none 0 0, Value.slice none 0 0, Value.slice none 0 0, Value.slice none 0 0] 30)).cell? ⟨w1.heap.size, 3, none⟩ = some (Value.slice none 0 0) := (bS2.alloc _).cell 3; have bZ2 := (Blk.new W5.drew 30 #[Value.int .i64 0, Value.int .i64 0, Value.slice none 0 0, Value.slice none 0 0, Value.slice none 0 0, Value.slice none 0 0, Value.slice none 0 0, Value.slice none 0 0]).below hb2 (Blk.new W5.drew 30 #[Value.int .i64 0, Value.int .i64 0, Value.slice none 0 0, Value.slice none 0 0, Value.slice none 0 0, Value.slice none 0 0, Value.slice none 0 0, Value.slice none 0 0]).lt; have HD := Lib.hid (fun (W : World) (hW : Below w2.heap.size w2 W) => HDif.out (some ⟨cj, 0, none⟩) (some ⟨cn, 0, none⟩) (some ⟨cl, 0, none⟩) (some ⟨bj, 0, none⟩) (some ⟨bn, 0, none⟩) none 2 1 1 2 1 0 W (hB2.trans (hW.mono hB2.size)) ⟨.of_blk (by decide) (s1.below hW s1.lt) rfl, .of_blk (by decide) (s2.below hW s2.lt) rfl, .of_blk (by decide) (s3.below hW s3.lt) rfl⟩ ⟨.of_blk (by decide) (m1.below hW m1.lt) rfl, .of_blk (by decide) (m2.below hW m2.lt) rfl, Elts.nil_⟩))
      | (go_simp; go_at_call 17; refine (HD.out w2 (Below.refl _ _)).mono ?_; rintro e w3 ⟨r1, r2, r3, r4, r5, r6, e1, e2, e3, e4, e5, e6, rfl, hO, hb3⟩; have hB3 := hB2.trans (hb3.mono hB2.size); try (have bZ3 := bZ2.below hb3 bZ2.lt; have c0 : w3.cell? ⟨W5.heap.size, 0, none⟩ = some (Value.int .i64 0) := bZ3.cell 0; have f0 : w3.frozen? ⟨W5.heap.size, 0, none⟩ = false := bZ3.frozen 0; have c1 : w3.cell? ⟨W5.heap.size, 1, none⟩ = some (Value.int .i64 0) := bZ3.cell 1; have f1 : w3.frozen? ⟨W5.heap.size, 1, none⟩ = false := bZ3.frozen 1; have c2 : w3.cell? ⟨W5.heap.size, 2, none⟩ = some (Value.slice none 0 0) := bZ3.cell 2; have f2 : w3.frozen? ⟨W5.heap.size, 2, none⟩ = false := bZ3.frozen 2; have c3 : w3.cell? ⟨W5.heap.size, 3, none⟩ = some (Value.slice none 0 0) := bZ3.cell 3; have f3 : w3.frozen? ⟨W5.heap.size, 3, none⟩ = false := bZ3.frozen 3; have c4 : w3.cell? ⟨W5.heap.size, 4, none⟩ = some (Value.slice none 0 0) := bZ3.cell 4; have f4 : w3.frozen? ⟨W5.heap.size, 4, none⟩ = false := bZ3.frozen 4; have c5 : w3.cell? ⟨W5.heap.size, 5, none⟩ = some (Value.slice none 0 0) := bZ3.cell 5; have f5 : w3.frozen? ⟨W5.heap.size, 5, none⟩ = false := bZ3.frozen 5; have c6 : w3.cell? ⟨W5.heap.size, 6, none⟩ = some (Value.slice none 0 0) := bZ3.cell 6; have f6 : w3.frozen? ⟨W5.heap.size, 6, none⟩ = false := bZ3.frozen 6; have c7 : w3.cell? ⟨W5.heap.size, 7, none⟩ = some (Value.slice none 0 0) := bZ3.cell 7; have f7 : w3.frozen? ⟨W5.heap.size, 7, none⟩ = false := bZ3.frozen 7))
      | (go_simp; go_at_call 17; refine (HD.out (w2.alloc (.cells #[Value.int .i64 0, Value.int .i64 0, Value.slice none 0 0, Value.slice none 0 0, Value.slice none 0 0, Value.slice none 0 0, Value.slice none 0 0, Value.slice none 0 0] 30)) ((Below.refl _ _).alloc (Nat.le_refl _) _)).mono ?_; rintro e w3 ⟨r1, r2, r3, r4, r5, r6, e1, e2, e3, e4, e5, e6, rfl, hO, hb3⟩; have hB3 := (hB2.alloc hB2.size (.cells #[Value.int .i64 0, Value.int .i64 0, Value.slice none 0 0, Value.slice none 0 0, Value.slice none 0 0, Value.slice none 0 0, Value.slice none 0 0, Value.slice none 0 0] 30)).trans (hb3.mono (Nat.le_trans hB2.size (by simp))); have bZ3 := (Blk.new w2 30 #[Value.int .i64 0, Value.int .i64 0, Value.slice none 0 0, Value.slice none 0 0, Value.slice none 0 0, Value.slice none 0 0, Value.slice none 0 0, Value.slice none 0 0]).below hb3 (Blk.new w2 30 #[Value.int .i64 0, Value.int .i64 0, Value.slice none 0 0, Value.slice none 0 0, Value.slice none 0 0, Value.slice none 0 0, Value.slice none 0 0, Value.slice none 0 0]).lt; have c0 : w3.cell? ⟨w2.heap.size, 0, none⟩ = some (Value.int .i64 0) := bZ3.cell 0; have f0 : w3.frozen? ⟨w2.heap.size, 0, none⟩ = false := bZ3.frozen 0; have c1 : w3.cell? ⟨w2.heap.size, 1, none⟩ = some (Value.int .i64 0) := bZ3.cell 1; have f1 : w3.frozen? ⟨w2.heap.size, 1, none⟩ = false := bZ3.frozen 1; have c2 : w3.cell? ⟨w2.heap.size, 2, none⟩ = some (Value.slice none 0 0) := bZ3.cell 2; have f2 : w3.frozen? ⟨w2.heap.size, 2, none⟩ = false := bZ3.frozen 2; have c3 : w3.cell? ⟨w2.heap.size, 3, none⟩ = some (Value.slice none 0 0) := bZ3.cell 3; have f3 : w3.frozen? ⟨w2.heap.size, 3, none⟩ = false := bZ3.frozen 3; have c4 : w3.cell? ⟨w2.heap.size, 4, none⟩ = some (Value.slice none 0 0) := bZ3.cell 4; have f4 : w3.frozen? ⟨w2.heap.size, 4, none⟩ = false := bZ3.frozen 4; have c5 : w3.cell? ⟨w2.heap.size, 5, none⟩ = some (Value.slice none 0 0) := bZ3.cell 5; have f5 : w3.frozen? ⟨w2.heap.size, 5, none⟩ = false := bZ3.frozen 5; have c6 : w3.cell? ⟨w2.heap.size, 6, none⟩ = some (Value.slice none 0 0) := bZ3.cell 6; have f6 : w3.frozen? ⟨w2.heap.size, 6, none⟩ = false := bZ3.frozen 6; have c7 : w3.cell? ⟨w2.heap.size, 7, none⟩ = some (Value.slice none 0 0) := bZ3.cell 7; have f7 : w3.frozen? ⟨w2.heap.size, 7, none⟩ = false := bZ3.frozen 7))
    all_goals
      clear HDif
      try clear c0 c1 c2 c3 c4 c5 c6 c7 f0 f1 f2 f3 f4 f5 f6 f7
      go_wp2_with fail
      go_meet
      first
        | (refine ⟨w3.heap.size, r1, r2, r3, r4, r5, r6, e1, e2, e3, e4, e5, e6, rfl, rfl, ?_, ?_, ?_⟩
           · exact Blk.new w3 _ _
           · exact (hO.below ((Below.refl _ _).alloc (Nat.le_refl _) _)).m
           · exact hB3.alloc hB3.size _)
        | (refine ⟨w2.heap.size, r1, r2, r3, r4, r5, r6, e1, e2, e3, e4, e5, e6, rfl, rfl, ?_, ?_, ?_⟩
           · exact (del_laid hO (g := w2.heap.size) (by simp) bZ3 hB3 hB2.size (.int .i64 4) (.int .i64 9) (.slice r1 0 e1) (.slice r2 0 e2) (.slice r3 0 e3) (.slice r4 0 e4) (.slice r5 0 e5) (.slice r6 1 e6)).1
           · exact (del_laid hO (g := w2.heap.size) (by simp) bZ3 hB3 hB2.size (.int .i64 4) (.int .i64 9) (.slice r1 0 e1) (.slice r2 0 e2) (.slice r3 0 e3) (.slice r4 0 e4) (.slice r5 0 e5) (.slice r6 1 e6)).2.1.m
           · exact (del_laid hO (g := w2.heap.size) (by simp) bZ3 hB3 hB2.size (.int .i64 4) (.int .i64 9) (.slice r1 0 e1) (.slice r2 0 e2) (.slice r3 0 e3) (.slice r4 0 e4) (.slice r5 0 e5) (.slice r6 1 e6)).2.2)
        | (refine ⟨W5.heap.size, r1, r2, r3, r4, r5, r6, e1, e2, e3, e4, e5, e6, rfl, rfl, ?_, ?_, ?_⟩
           · exact (del_laid hO (g := W5.heap.size) bZ2.lt bZ3 hB3 hB5.size (.int .i64 4) (.int .i64 9) (.slice r1 0 e1) (.slice r2 0 e2) (.slice r3 0 e3) (.slice r4 0 e4) (.slice r5 0 e5) (.slice r6 1 e6)).1
           · exact (del_laid hO (g := W5.heap.size) bZ2.lt bZ3 hB3 hB5.size (.int .i64 4) (.int .i64 9) (.slice r1 0 e1) (.slice r2 0 e2) (.slice r3 0 e3) (.slice r4 0 e4) (.slice r5 0 e5) (.slice r6 1 e6)).2.1.m
           · exact (del_laid hO (g := W5.heap.size) bZ2.lt bZ3 hB3 hB5.size (.int .i64 4) (.int .i64 9) (.slice r1 0 e1) (.slice r2 0 e2) (.slice r3 0 e3) (.slice r4 0 e4) (.slice r5 0 e5) (.slice r6 1 e6)).2.2)
  case rest =>
    obtain ⟨g, r1, r2, r3, r4, r5, r6, e1, e2, e3, e4, e5, e6, rfl, rfl, bD, hM, hB⟩ := hcut
    have z0 : wc.cell? ⟨g, 0, none⟩ = some (.int .i64 4) := bD.cell 0
    have z1 : wc.cell? ⟨g, 1, none⟩ = some (.int .i64 9) := bD.cell 1
    have z7 : wc.cell? ⟨g, 7, none⟩ = some (.slice r6 1 e6) := bD.cell 7
    have hBn := hB.alloc hB.size (.cells #[Value.string ⟨#[97]⟩] 9)
    have hb6 : Below wc.heap.size wc (wc.alloc (.cells #[Value.string ⟨#[97]⟩] 9)) := (Below.refl _ _).alloc (Nat.le_refl _) _
    have hE := eqS_any r6 (some ⟨wc.heap.size, 0, none⟩) e6 1 sampleD.gl [⟨#[97]⟩] (wc.alloc (.cells #[Value.string ⟨#[97]⟩] 9)) ((hM.gl.below hb6).more hb6.size) (.of_blk (by decide) (Blk.new wc 9 #[Value.string ⟨#[97]⟩]) rfl) (by decide) (by decide)
    rw [show decide (sampleD.gl = [⟨#[97]⟩]) = true from by decide +kernel] at hE
    have HE := Lib.hid hE
    have bD6 := bD.alloc (.cells #[Value.string ⟨#[97]⟩] 9)
    clear hE hM
    go_wp2_with fail
    refine HE.out.mono ?_
    rintro e w9 ⟨rfl, hb9⟩
    have z2 : w9.cell? ⟨g, 2, none⟩ = some (.slice r1 0 e1) := (bD6.below hb9 bD6.lt).cell 2
    have hBz := hBn.trans (hb9.mono hBn.size)
    go_wp2_with fail
    go_ret
    exact ⟨rfl, hBz⟩
end Go.Proofs.YtkommikehbbhbaaGreatDoor
