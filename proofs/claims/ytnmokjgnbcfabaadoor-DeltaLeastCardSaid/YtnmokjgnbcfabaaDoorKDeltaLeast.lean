/-
  The law DeltaLeast of package brackenkeep: for every input it answers true.
-/
import Derived.Test.YtnmokjgnbcfabaaDoorRows
import Derived.Test.YtnmokjgnbcfabaaDoorPkBase
import Derived.Test.YtnmokjgnbcfabaaDoorPkDelB
import Derived.Test.YtnmokjgnbcfabaaDoorPkStateB
import Derived.Test.YtnmokjgnbcfabaaDoorPkAt
import Derived.Test.YtnmokjgnbcfabaaDoorPkHeld
import Derived.Test.YtnmokjgnbcfabaaDoorPkSums
import Derived.IntWalk
set_option linter.unusedVariables false
set_option linter.unusedSimpArgs false
namespace Go.Proofs.YtnmokjgnbcfabaaDoor.deltaLeast
open Go.ChangeShapes Go.WideShapes Go.ChangeAt Go.RowKit Go.Joins
open Go.ChangeMaps (open_string)
set_option maxHeartbeats 8000000 in
set_option maxRecDepth 100000 in
theorem walk (a : St) (p1 p2 p3 : Option Addr) (c1 c2 c3 : Nat) (w : World) (ha : StM w w.heap.size p1 p2 p3 a) (ka : StOk a) (b : St) (q1 q2 q3 : Option Addr) (d1 d2 d3 : Nat) (hb : StM w w.heap.size q1 q2 q3 b) (kb : StOk b) (hT : Tabs w) :
    Calls Tryd.prog 6 #[.agg #[.int .i64 a.rev, .slice p1 a.jobs.length c1, .slice p2 a.nodes.length c2, .slice p3 a.leases.length c3], .agg #[.int .i64 b.rev, .slice q1 b.jobs.length d1, .slice q2 b.nodes.length d2, .slice q3 b.leases.length d3]] w fun e w' => e = .returned (.bool true) ∧ Below w.heap.size w w' := by
  have hzd := zero_delta_lit
  have HA := Lib.hid ha
  have HB := Lib.hid hb
  have HZA := Lib.hid ka.sz
  have HZB := Lib.hid kb.sz
  have HT := Lib.hid hT
  have hB0 : Below w.heap.size w ((w.alloc (.cells #[Value.int .i64 a.rev, Value.slice p1 a.jobs.length c1, Value.slice p2 a.nodes.length c2, Value.slice p3 a.leases.length c3] 26)).alloc (.cells #[Value.int .i64 b.rev, Value.slice q1 b.jobs.length d1, Value.slice q2 b.nodes.length d2, Value.slice q3 b.leases.length d3] 26)) := ((Below.refl _ _).alloc (Nat.le_refl _) _).alloc (by simp) _
  have bA := (Blk.new w 26 #[Value.int .i64 a.rev, Value.slice p1 a.jobs.length c1, Value.slice p2 a.nodes.length c2, Value.slice p3 a.leases.length c3]).alloc (.cells #[Value.int .i64 b.rev, Value.slice q1 b.jobs.length d1, Value.slice q2 b.nodes.length d2, Value.slice q3 b.leases.length d3] 26)
  have bB : Blk ((w.alloc (.cells #[Value.int .i64 a.rev, Value.slice p1 a.jobs.length c1, Value.slice p2 a.nodes.length c2, Value.slice p3 a.leases.length c3] 26)).alloc (.cells #[Value.int .i64 b.rev, Value.slice q1 b.jobs.length d1, Value.slice q2 b.nodes.length d2, Value.slice q3 b.leases.length d3] 26)) (w.heap.size + 1) 26 #[Value.int .i64 b.rev, Value.slice q1 b.jobs.length d1, Value.slice q2 b.nodes.length d2, Value.slice q3 b.leases.length d3] := by have := Blk.new (w.alloc (.cells #[Value.int .i64 a.rev, Value.slice p1 a.jobs.length c1, Value.slice p2 a.nodes.length c2, Value.slice p3 a.leases.length c3] 26)) 26 #[Value.int .i64 b.rev, Value.slice q1 b.jobs.length d1, Value.slice q2 b.nodes.length d2, Value.slice q3 b.leases.length d3]; simpa using this
  clear ha hb ka kb hT
  have hDD := Lib.hid (show diffD a b = if diffE a b = 0 then betw a b else noD from rfl)
  have HD := Lib.hid (fun (W : World) (hW : Below w.heap.size w W) => diff_any a b p1 p2 p3 q1 q2 q3 c1 c2 c3 d1 d2 d3 W ((HA.out.below hW).more hW.size) ((HB.out.below hW).more hW.size) HZA.out HZB.out (HT.out.below hW))
  obtain ⟨dd, hdd⟩ : ∃ dd, diffD a b = dd := ⟨_, rfl⟩
  rw [hdd] at HD
  by_cases hE : diffE a b = 0
  · have HE := HD.out
    rw [hE] at HE
    have HD := Lib.hid HE
    clear HE
    have hcz : checkE a = 0 ∧ checkE b = 0 := by
        unfold diffE at hE
        by_cases h1 : checkE a ≠ 0
        · rw [if_pos h1] at hE; exact absurd hE h1
        · rw [if_neg h1] at hE
          by_cases h2 : checkE b ≠ 0
          · rw [if_pos h2] at hE; exact absurd hE h2
          · exact ⟨by omega, by omega⟩
    have FA := (fine_iff a).1 hcz.1
    have FB := (fine_iff b).1 hcz.2
    rw [hDD.out, if_pos hE] at hdd
    have la1 := FA.nj; have la2 := FA.nn; have la3 := FA.nl; have lb1 := FB.nj; have lb2 := FB.nn; have lb3 := FB.nl
    have hJ : dd.jobs = setOf a.jobs b.jobs := by rw [← hdd]; rfl
    have HSJ := Lib.hid (show ∀ x ∈ dd.jobs, (a.jobs.any fun y => decide (x = y)) = false ∧ (b.jobs.any fun y => decide (x = y)) = true from fun x hx => by rw [hJ] at hx; have := setOf_mem.1 hx; exact ⟨List.any_eq_false.2 (fun y hy he => this.2 (of_decide_eq_true he ▸ hy)), List.any_eq_true.2 ⟨x, this.1, decide_eq_true rfl⟩⟩)
    have ldJ : dd.jobs.length ≤ 1000 := by rw [hJ]; have := setOf_len a.jobs b.jobs; omega
    have hN : dd.nodes = setOf a.nodes b.nodes := by rw [← hdd]; rfl
    have HSN := Lib.hid (show ∀ x ∈ dd.nodes, (a.nodes.any fun y => decide (x = y)) = false ∧ (b.nodes.any fun y => decide (x = y)) = true from fun x hx => by rw [hN] at hx; have := setOf_mem.1 hx; exact ⟨List.any_eq_false.2 (fun y hy he => this.2 (of_decide_eq_true he ▸ hy)), List.any_eq_true.2 ⟨x, this.1, decide_eq_true rfl⟩⟩)
    have ldN : dd.nodes.length ≤ 1000 := by rw [hN]; have := setOf_len a.nodes b.nodes; omega
    have hL : dd.leases = setOf a.leases b.leases := by rw [← hdd]; rfl
    have HSL := Lib.hid (show ∀ x ∈ dd.leases, (a.leases.any fun y => decide (x = y)) = false ∧ (b.leases.any fun y => decide (x = y)) = true from fun x hx => by rw [hL] at hx; have := setOf_mem.1 hx; exact ⟨List.any_eq_false.2 (fun y hy he => this.2 (of_decide_eq_true he ▸ hy)), List.any_eq_true.2 ⟨x, this.1, decide_eq_true rfl⟩⟩)
    have ldL : dd.leases.length ≤ 1000 := by rw [hL]; have := setOf_len a.leases b.leases; omega
    have hgJ : dd.gj = goneOf JobD.name a.jobs b.jobs := by rw [← hdd]; rfl
    have HGJ := Lib.hid (show ∀ x ∈ dd.gj, 0 ≤ ixBy JobD.name a.jobs x 0 ∧ ixBy JobD.name b.jobs x 0 < 0 from fun x hx => by rw [hgJ] at hx; have := goneOf_mem.1 hx; refine ⟨?_, (ixBy_lt _ _ _).2 this.2⟩; rcases Int.lt_or_le (ixBy JobD.name a.jobs x 0) 0 with h | h; (focus (obtain ⟨⟨y, hy, he⟩, _⟩ := this; exact absurd he ((ixBy_lt _ _ _).1 h y hy))); exact h)
    have lgJ : dd.gj.length ≤ 1000 := by rw [hgJ]; have := goneOf_len JobD.name a.jobs b.jobs; omega
    have hgL : dd.gl = goneOf LeaseD.job a.leases b.leases := by rw [← hdd]; rfl
    have HGL := Lib.hid (show ∀ x ∈ dd.gl, 0 ≤ ixBy LeaseD.job a.leases x 0 ∧ ixBy LeaseD.job b.leases x 0 < 0 from fun x hx => by rw [hgL] at hx; have := goneOf_mem.1 hx; refine ⟨?_, (ixBy_lt _ _ _).2 this.2⟩; rcases Int.lt_or_le (ixBy LeaseD.job a.leases x 0) 0 with h | h; (focus (obtain ⟨⟨y, hy, he⟩, _⟩ := this; exact absurd he ((ixBy_lt _ _ _).1 h y hy))); exact h)
    have lgL : dd.gl.length ≤ 1000 := by rw [hgL]; have := goneOf_len LeaseD.job a.leases b.leases; omega
    have hcnt : (a.jobs.length : Int) - (dd.gj.length : Int) ≤ (b.jobs.length : Int) := by have := goneOf_count (b := b.jobs) FA.sj; rw [← hgJ] at this; omega
    have hwc : IntKind.i64.wrap ((a.jobs.length : Int) - (dd.gj.length : Int)) = (a.jobs.length : Int) - (dd.gj.length : Int) := IntWalk.i64_in _ (by omega)
    have z0 : (((0 : Nat) : Int) != 0) = false := rfl
    clear hcz FA FB hJ hN hL hgJ hgL hdd hDD hE
    go_enter Tryd.func6, Tryd.ntmps6
    go_wp2_with fail
    generalize (w.alloc (.cells #[Value.int .i64 a.rev, Value.slice p1 a.jobs.length c1, Value.slice p2 a.nodes.length c2, Value.slice p3 a.leases.length c3] 26)).alloc (.cells #[Value.int .i64 b.rev, Value.slice q1 b.jobs.length d1, Value.slice q2 b.nodes.length d2, Value.slice q3 b.leases.length d3] 26) = W1 at *
    refine (differed_any _ (HT.out.below hB0)).mono ?_
    rintro e W2 ⟨rfl, hb2⟩
    have cW := hB0.trans (hb2.mono hB0.size)
    have bA2 := bA.below hb2 bA.lt
    have bB2 := bB.below hb2 bB.lt
    clear bA bB hb2 hB0
    go_wp2_with (first | (refine wpList_load_blk rfl _ _ rfl w.heap.size rfl _ #[Value.int .i64 a.rev, Value.slice p1 a.jobs.length c1, Value.slice p2 a.nodes.length c2, Value.slice p3 a.leases.length c3] bA2 _ Tryd.underlying26 rfl state_size ?_) | (refine wpList_load_blk rfl _ _ rfl (w.heap.size + 1) rfl _ #[Value.int .i64 b.rev, Value.slice q1 b.jobs.length d1, Value.slice q2 b.nodes.length d2, Value.slice q3 b.leases.length d3] bB2 _ Tryd.underlying26 rfl state_size ?_))
    refine (HD.out _ cW).mono ?_
    rintro e W3 ⟨r1, r2, r3, r4, r5, r6, e1, e2, e3, e4, e5, e6, rfl, hO, hb3⟩
    have cW3 := cW.trans (hb3.mono cW.size)
    have bA3 := bA2.below hb3 bA2.lt
    have bB3 := bB2.below hb3 bB2.lt
    clear bA2 bB2 hb3 cW
    have cW4 := cW3.alloc cW3.size (.cells #[Value.int .i64 dd.frm, Value.int .i64 dd.upto, Value.slice r1 dd.jobs.length e1, Value.slice r2 dd.nodes.length e2, Value.slice r3 dd.leases.length e3, Value.slice r4 dd.gj.length e4, Value.slice r5 dd.gn.length e5, Value.slice r6 dd.gl.length e6] 51)
    have bA4 := bA3.alloc (.cells #[Value.int .i64 dd.frm, Value.int .i64 dd.upto, Value.slice r1 dd.jobs.length e1, Value.slice r2 dd.nodes.length e2, Value.slice r3 dd.leases.length e3, Value.slice r4 dd.gj.length e4, Value.slice r5 dd.gn.length e5, Value.slice r6 dd.gl.length e6] 51)
    have bB4 := bB3.alloc (.cells #[Value.int .i64 dd.frm, Value.int .i64 dd.upto, Value.slice r1 dd.jobs.length e1, Value.slice r2 dd.nodes.length e2, Value.slice r3 dd.leases.length e3, Value.slice r4 dd.gj.length e4, Value.slice r5 dd.gn.length e5, Value.slice r6 dd.gl.length e6] 51)
    have bD4 := Blk.new W3 51 #[Value.int .i64 dd.frm, Value.int .i64 dd.upto, Value.slice r1 dd.jobs.length e1, Value.slice r2 dd.nodes.length e2, Value.slice r3 dd.leases.length e3, Value.slice r4 dd.gj.length e4, Value.slice r5 dd.gn.length e5, Value.slice r6 dd.gl.length e6]
    have hM4 := (hO.below ((Below.refl _ _).alloc (Nat.le_refl _) (.cells #[Value.int .i64 dd.frm, Value.int .i64 dd.upto, Value.slice r1 dd.jobs.length e1, Value.slice r2 dd.nodes.length e2, Value.slice r3 dd.leases.length e3, Value.slice r4 dd.gj.length e4, Value.slice r5 dd.gn.length e5, Value.slice r6 dd.gl.length e6] 51))).m
    clear hO bA3 bB3 cW3 HD
    have zD := bD4.cell 2
    have zD : (W3.alloc (.cells #[Value.int .i64 dd.frm, Value.int .i64 dd.upto, Value.slice r1 dd.jobs.length e1, Value.slice r2 dd.nodes.length e2, Value.slice r3 dd.leases.length e3, Value.slice r4 dd.gj.length e4, Value.slice r5 dd.gn.length e5, Value.slice r6 dd.gl.length e6] 51)).cell? ⟨W3.heap.size, 2, none⟩ = some (Value.slice r1 dd.jobs.length e1) := zD
    go_wp2_with (first | (refine wpList_store_new rfl _ _ _ rfl rfl 51 _ #[Value.int .i64 dd.frm, Value.int .i64 dd.upto, Value.slice r1 dd.jobs.length e1, Value.slice r2 dd.nodes.length e2, Value.slice r3 dd.leases.length e3, Value.slice r4 dd.gj.length e4, Value.slice r5 dd.gn.length e5, Value.slice r6 dd.gl.length e6] rfl delta_size rfl (one_d8 _ _ _ _ _ _ _ _ _ _ _ _ _ _ _ _ _ _ _ _) ?_))
    generalize W3.alloc (.cells #[Value.int .i64 dd.frm, Value.int .i64 dd.upto, Value.slice r1 dd.jobs.length e1, Value.slice r2 dd.nodes.length e2, Value.slice r3 dd.leases.length e3, Value.slice r4 dd.gj.length e4, Value.slice r5 dd.gn.length e5, Value.slice r6 dd.gl.length e6] 51) = Wa at *
    generalize W3.heap.size = gd at *
    go_loopw [30] (fun i wr => ∃ k : Nat, k ≤ dd.jobs.length ∧ i = .int .i64 k ∧ Below Wa.heap.size Wa wr) (fun i _ => dd.jobs.length - (intOf i).toNat)
    case atStart => exact ⟨0, Nat.zero_le _, rfl, Below.refl _ _⟩
    case round =>
      obtain ⟨k, hk, rfl, hbr⟩ := hrel
      have bAr := bA4.below hbr bA4.lt
      have bBr := bB4.below hbr bB4.lt
      have cr := cW4.trans (hbr.mono cW4.size)
      clear zD
      by_cases hlt : k < dd.jobs.length
      · have hx : dd.jobs[k]? = some dd.jobs[k] := List.getElem?_eq_getElem hlt
        have hme := HSJ.out dd.jobs[k] (List.getElem_mem hlt)
        generalize dd.jobs[k] = x at *
        obtain ⟨ad, had, hab, _, hat⟩ := (hM4.j.below hbr).at_ (k := k) (r := rowJ x) (by rw [List.getElem?_map, hx]; rfl)
        subst had
        have hk0 : (0 : Int) ≤ (k : Int) := by omega
        have hk1 : (k : Int) < (dd.jobs.length : Int) := by omega
        have c5 := cr.alloc cr.size (.cells #[Value.string x.name, Value.int .i64 x.prio, Value.int .i64 x.need, Value.int .i64 x.tries, Value.string x.tag] 32)
        have bA5 := bAr.alloc (.cells #[Value.string x.name, Value.int .i64 x.prio, Value.int .i64 x.need, Value.int .i64 x.tries, Value.string x.tag] 32)
        have bB5 := bBr.alloc (.cells #[Value.string x.name, Value.int .i64 x.prio, Value.int .i64 x.need, Value.int .i64 x.tries, Value.string x.tag] 32)
        have bx5 := Blk.new wr 32 #[Value.string x.name, Value.int .i64 x.prio, Value.int .i64 x.need, Value.int .i64 x.tries, Value.string x.tag]
        have hr5 := hbr.alloc hbr.size (.cells #[Value.string x.name, Value.int .i64 x.prio, Value.int .i64 x.need, Value.int .i64 x.tries, Value.string x.tag] 32)
        have hc1 := hasJ_any x p1 c1 a.jobs (wr.alloc (.cells #[Value.string x.name, Value.int .i64 x.prio, Value.int .i64 x.need, Value.int .i64 x.tries, Value.string x.tag] 32)) ((HA.out.j.below c5).more c5.size) (by omega)
        rw [hme.1] at hc1
        have HC1 := Lib.hid hc1
        have HC2 := Lib.hid (fun (W : World) (hW : Below w.heap.size w W) => show Calls Tryd.prog 22 #[.slice q1 b.jobs.length d1, .agg #[Value.string x.name, Value.int .i64 x.prio, Value.int .i64 x.need, Value.int .i64 x.tries, Value.string x.tag]] W (fun e w' => e = .returned (.bool true) ∧ Below W.heap.size W w') from by have := hasJ_any x q1 d1 b.jobs W ((HB.out.j.below hW).more hW.size) (by omega); rwa [hme.2] at this)
        have fa : (wr.alloc (.cells #[Value.string x.name, Value.int .i64 x.prio, Value.int .i64 x.need, Value.int .i64 x.tries, Value.string x.tag] 32)).cell? ⟨w.heap.size, 1, none⟩ = some (.slice p1 a.jobs.length c1) := bA5.cell 1
        clear hc1 hme hx
        go_wp2_with (refine wpList_load_at rfl _ _ rfl (ad.add (k * 5)) rfl [Value.string x.name, Value.int .i64 x.prio, Value.int .i64 x.need, Value.int .i64 x.tries, Value.string x.tag] _ hat Tryd.underlying32 rfl job_size ?_)
        refine HC1.out.mono ?_
        rintro e w1 ⟨rfl, hb1⟩
        have c6 := c5.trans (hb1.mono c5.size)
        have hr6 := hr5.trans (hb1.mono hr5.size)
        have bB6 := bB5.below hb1 bB5.lt
        have bx6 := bx5.below hb1 bx5.lt
        have fb : w1.cell? ⟨w.heap.size + 1, 1, none⟩ = some (.slice q1 b.jobs.length d1) := bB6.cell 1
        clear fa hat c5 hr5 bA5 bB5 bx5 hb1 HC1
        go_wp2_with (refine wpList_load_blk_w (by rfl) _ _ rfl wr.heap.size rfl _ #[Value.string x.name, Value.int .i64 x.prio, Value.int .i64 x.need, Value.int .i64 x.tries, Value.string x.tag] bx6 _ Tryd.underlying32 rfl job_size ?_)
        refine (HC2.out _ c6).mono ?_
        rintro e w2 ⟨rfl, hb2⟩
        have hr7 := hr6.trans (hb2.mono hr6.size)
        clear fb hb2 c6 hr6 bB6 HC2
        go_wp2_with fail
        go_roundw
        case rel => exact ⟨k + 1, by omega, by go_num, hr7⟩
        case measure => simp [intOf]; omega
      · obtain rfl : k = dd.jobs.length := by omega
        obtain ⟨W10, rfl⟩ : ∃ W : World, W = wr := ⟨_, rfl⟩
        have bD10 := bD4.below hbr bD4.lt
        have hM10 := (hM4.below hbr).more hbr.size
        clear bD4 bA4 bB4
        have zD : W10.cell? ⟨gd, 3, none⟩ = some (Value.slice r2 dd.nodes.length e2) := bD10.cell 3
        have bA10 := bAr
        have bB10 := bBr
        have c10 := cr
        clear hbr bAr bBr cr
        go_wp2_with fail
        go_loopw [49] (fun i wr => ∃ k : Nat, k ≤ dd.nodes.length ∧ i = .int .i64 k ∧ Below W10.heap.size W10 wr) (fun i _ => dd.nodes.length - (intOf i).toNat)
        case atStart => exact ⟨0, Nat.zero_le _, rfl, Below.refl _ _⟩
        case round =>
          obtain ⟨k, hk, rfl, hbr⟩ := hrel
          have bAr := bA10.below hbr bA10.lt
          have bBr := bB10.below hbr bB10.lt
          have cr := c10.trans (hbr.mono c10.size)
          clear zD
          by_cases hlt : k < dd.nodes.length
          · have hx : dd.nodes[k]? = some dd.nodes[k] := List.getElem?_eq_getElem hlt
            have hme := HSN.out dd.nodes[k] (List.getElem_mem hlt)
            generalize dd.nodes[k] = x at *
            obtain ⟨ad, had, hab, _, hat⟩ := (hM10.n.below hbr).at_ (k := k) (r := rowN x) (by rw [List.getElem?_map, hx]; rfl)
            subst had
            have hk0 : (0 : Int) ≤ (k : Int) := by omega
            have hk1 : (k : Int) < (dd.nodes.length : Int) := by omega
            have c5 := cr.alloc cr.size (.cells #[Value.string x.name, Value.int .i64 x.room, Value.string x.zone] 35)
            have bA5 := bAr.alloc (.cells #[Value.string x.name, Value.int .i64 x.room, Value.string x.zone] 35)
            have bB5 := bBr.alloc (.cells #[Value.string x.name, Value.int .i64 x.room, Value.string x.zone] 35)
            have bx5 := Blk.new wr 35 #[Value.string x.name, Value.int .i64 x.room, Value.string x.zone]
            have hr5 := hbr.alloc hbr.size (.cells #[Value.string x.name, Value.int .i64 x.room, Value.string x.zone] 35)
            have hc1 := hasN_any x p2 c2 a.nodes (wr.alloc (.cells #[Value.string x.name, Value.int .i64 x.room, Value.string x.zone] 35)) ((HA.out.n.below c5).more c5.size) (by omega)
            rw [hme.1] at hc1
            have HC1 := Lib.hid hc1
            have HC2 := Lib.hid (fun (W : World) (hW : Below w.heap.size w W) => show Calls Tryd.prog 23 #[.slice q2 b.nodes.length d2, .agg #[Value.string x.name, Value.int .i64 x.room, Value.string x.zone]] W (fun e w' => e = .returned (.bool true) ∧ Below W.heap.size W w') from by have := hasN_any x q2 d2 b.nodes W ((HB.out.n.below hW).more hW.size) (by omega); rwa [hme.2] at this)
            have fa : (wr.alloc (.cells #[Value.string x.name, Value.int .i64 x.room, Value.string x.zone] 35)).cell? ⟨w.heap.size, 2, none⟩ = some (.slice p2 a.nodes.length c2) := bA5.cell 2
            clear hc1 hme hx
            go_wp2_with (refine wpList_load_at rfl _ _ rfl (ad.add (k * 3)) rfl [Value.string x.name, Value.int .i64 x.room, Value.string x.zone] _ hat Tryd.underlying35 rfl node_size ?_)
            refine HC1.out.mono ?_
            rintro e w1 ⟨rfl, hb1⟩
            have c6 := c5.trans (hb1.mono c5.size)
            have hr6 := hr5.trans (hb1.mono hr5.size)
            have bB6 := bB5.below hb1 bB5.lt
            have bx6 := bx5.below hb1 bx5.lt
            have fb : w1.cell? ⟨w.heap.size + 1, 2, none⟩ = some (.slice q2 b.nodes.length d2) := bB6.cell 2
            clear fa hat c5 hr5 bA5 bB5 bx5 hb1 HC1
            go_wp2_with (refine wpList_load_blk_w (by rfl) _ _ rfl wr.heap.size rfl _ #[Value.string x.name, Value.int .i64 x.room, Value.string x.zone] bx6 _ Tryd.underlying35 rfl node_size ?_)
            refine (HC2.out _ c6).mono ?_
            rintro e w2 ⟨rfl, hb2⟩
            have hr7 := hr6.trans (hb2.mono hr6.size)
            clear fb hb2 c6 hr6 bB6 HC2
            go_wp2_with fail
            go_roundw
            case rel => exact ⟨k + 1, by omega, by go_num, hr7⟩
            case measure => simp [intOf]; omega
          · obtain rfl : k = dd.nodes.length := by omega
            obtain ⟨W11, rfl⟩ : ∃ W : World, W = wr := ⟨_, rfl⟩
            have bD11 := bD10.below hbr bD10.lt
            have hM11 := (hM10.below hbr).more hbr.size
            clear bD10 bA10 bB10
            have zD : W11.cell? ⟨gd, 4, none⟩ = some (Value.slice r3 dd.leases.length e3) := bD11.cell 4
            have bA11 := bAr
            have bB11 := bBr
            have c11 := cr
            clear hbr bAr bBr cr
            go_wp2_with fail
            go_loopw [68] (fun i wr => ∃ k : Nat, k ≤ dd.leases.length ∧ i = .int .i64 k ∧ Below W11.heap.size W11 wr) (fun i _ => dd.leases.length - (intOf i).toNat)
            case atStart => exact ⟨0, Nat.zero_le _, rfl, Below.refl _ _⟩
            case round =>
              obtain ⟨k, hk, rfl, hbr⟩ := hrel
              have bAr := bA11.below hbr bA11.lt
              have bBr := bB11.below hbr bB11.lt
              have cr := c11.trans (hbr.mono c11.size)
              clear zD
              by_cases hlt : k < dd.leases.length
              · have hx : dd.leases[k]? = some dd.leases[k] := List.getElem?_eq_getElem hlt
                have hme := HSL.out dd.leases[k] (List.getElem_mem hlt)
                generalize dd.leases[k] = x at *
                obtain ⟨ad, had, hab, _, hat⟩ := (hM11.l.below hbr).at_ (k := k) (r := rowL x) (by rw [List.getElem?_map, hx]; rfl)
                subst had
                have hk0 : (0 : Int) ≤ (k : Int) := by omega
                have hk1 : (k : Int) < (dd.leases.length : Int) := by omega
                have c5 := cr.alloc cr.size (.cells #[Value.string x.job, Value.string x.node, Value.int .i64 x.till] 38)
                have bA5 := bAr.alloc (.cells #[Value.string x.job, Value.string x.node, Value.int .i64 x.till] 38)
                have bB5 := bBr.alloc (.cells #[Value.string x.job, Value.string x.node, Value.int .i64 x.till] 38)
                have bx5 := Blk.new wr 38 #[Value.string x.job, Value.string x.node, Value.int .i64 x.till]
                have hr5 := hbr.alloc hbr.size (.cells #[Value.string x.job, Value.string x.node, Value.int .i64 x.till] 38)
                have hc1 := hasL_any x p3 c3 a.leases (wr.alloc (.cells #[Value.string x.job, Value.string x.node, Value.int .i64 x.till] 38)) ((HA.out.l.below c5).more c5.size) (by omega)
                rw [hme.1] at hc1
                have HC1 := Lib.hid hc1
                have HC2 := Lib.hid (fun (W : World) (hW : Below w.heap.size w W) => show Calls Tryd.prog 24 #[.slice q3 b.leases.length d3, .agg #[Value.string x.job, Value.string x.node, Value.int .i64 x.till]] W (fun e w' => e = .returned (.bool true) ∧ Below W.heap.size W w') from by have := hasL_any x q3 d3 b.leases W ((HB.out.l.below hW).more hW.size) (by omega); rwa [hme.2] at this)
                have fa : (wr.alloc (.cells #[Value.string x.job, Value.string x.node, Value.int .i64 x.till] 38)).cell? ⟨w.heap.size, 3, none⟩ = some (.slice p3 a.leases.length c3) := bA5.cell 3
                clear hc1 hme hx
                go_wp2_with (refine wpList_load_at rfl _ _ rfl (ad.add (k * 3)) rfl [Value.string x.job, Value.string x.node, Value.int .i64 x.till] _ hat Tryd.underlying38 rfl lease_size ?_)
                refine HC1.out.mono ?_
                rintro e w1 ⟨rfl, hb1⟩
                have c6 := c5.trans (hb1.mono c5.size)
                have hr6 := hr5.trans (hb1.mono hr5.size)
                have bB6 := bB5.below hb1 bB5.lt
                have bx6 := bx5.below hb1 bx5.lt
                have fb : w1.cell? ⟨w.heap.size + 1, 3, none⟩ = some (.slice q3 b.leases.length d3) := bB6.cell 3
                clear fa hat c5 hr5 bA5 bB5 bx5 hb1 HC1
                go_wp2_with (refine wpList_load_blk_w (by rfl) _ _ rfl wr.heap.size rfl _ #[Value.string x.job, Value.string x.node, Value.int .i64 x.till] bx6 _ Tryd.underlying38 rfl lease_size ?_)
                refine (HC2.out _ c6).mono ?_
                rintro e w2 ⟨rfl, hb2⟩
                have hr7 := hr6.trans (hb2.mono hr6.size)
                clear fb hb2 c6 hr6 bB6 HC2
                go_wp2_with fail
                go_roundw
                case rel => exact ⟨k + 1, by omega, by go_num, hr7⟩
                case measure => simp [intOf]; omega
              · obtain rfl : k = dd.leases.length := by omega
                obtain ⟨W12, rfl⟩ : ∃ W : World, W = wr := ⟨_, rfl⟩
                have bD12 := bD11.below hbr bD11.lt
                have hM12 := (hM11.below hbr).more hbr.size
                clear bD11 bA11 bB11
                have zD : W12.cell? ⟨gd, 5, none⟩ = some (Value.slice r4 dd.gj.length e4) := bD12.cell 5
                have bA12 := bAr
                have bB12 := bBr
                have c12 := cr
                clear hbr bAr bBr cr
                go_wp2_with fail
                go_loopw [87] (fun i wr => ∃ k : Nat, k ≤ dd.gj.length ∧ i = .int .i64 k ∧ Below W12.heap.size W12 wr) (fun i _ => dd.gj.length - (intOf i).toNat)
                case atStart => exact ⟨0, Nat.zero_le _, rfl, Below.refl _ _⟩
                case round =>
                  obtain ⟨k, hk, rfl, hbr⟩ := hrel
                  have bAr := bA12.below hbr bA12.lt
                  have bBr := bB12.below hbr bB12.lt
                  have cr := c12.trans (hbr.mono c12.size)
                  clear zD
                  by_cases hlt : k < dd.gj.length
                  · have hx : dd.gj[k]? = some dd.gj[k] := List.getElem?_eq_getElem hlt
                    have hme := HGJ.out dd.gj[k] (List.getElem_mem hlt)
                    generalize dd.gj[k] = x at *
                    obtain ⟨ad, had, hab, _, hat⟩ := (hM12.gj.below hbr).at_ (k := k) (r := rowS x) (by rw [List.getElem?_map, hx]; rfl)
                    subst had
                    have hk0 : (0 : Int) ≤ (k : Int) := by omega
                    have hk1 : (k : Int) < (dd.gj.length : Int) := by omega
                    have e0 : wr.cell? (ad.add k) = some (.string x) := at_one hat
                    obtain ⟨hm1, hm2⟩ := hme
                    have HC1 := Lib.hid (atJ_any p1 c1 a.jobs x wr ((HA.out.j.below cr).more cr.size) (by omega))
                    have HC2 := Lib.hid (fun (W : World) (hW : Below w.heap.size w W) => atJ_any q1 d1 b.jobs x W ((HB.out.j.below hW).more hW.size) (by omega))
                    generalize ixBy JobD.name a.jobs x 0 = i1 at *
                    generalize ixBy JobD.name b.jobs x 0 = i2 at *
                    have g1 : ¬ (i1 < 0) := by omega
                    have g2 : ¬ (0 ≤ i2) := by omega
                    have g3 : decide (i1 < 0) = false := decide_eq_false g1
                    have g4 : decide (0 ≤ i2) = false := decide_eq_false g2
                    have fa : wr.cell? ⟨w.heap.size, 1, none⟩ = some (.slice p1 a.jobs.length c1) := bAr.cell 1
                    clear hat hx
                    go_wp2_with fail
                    refine HC1.out.mono ?_
                    rintro e w1 ⟨rfl, hb1⟩
                    have c6 := cr.trans (hb1.mono cr.size)
                    have hr6 := hbr.trans (hb1.mono hbr.size)
                    have bB6 := bBr.below hb1 bBr.lt
                    have fb : w1.cell? ⟨w.heap.size + 1, 1, none⟩ = some (.slice q1 b.jobs.length d1) := bB6.cell 1
                    clear e0 fa hb1 HC1
                    go_wp2_with fail
                    refine (HC2.out _ c6).mono ?_
                    rintro e w2 ⟨rfl, hb2⟩
                    have hr7 := hr6.trans (hb2.mono hr6.size)
                    clear fb hb2 c6 hr6 bB6 HC2
                    go_wp2_with fail
                    go_roundw
                    case rel => exact ⟨k + 1, by omega, by go_num, hr7⟩
                    case measure => simp [intOf]; omega
                  · obtain rfl : k = dd.gj.length := by omega
                    obtain ⟨W13, rfl⟩ : ∃ W : World, W = wr := ⟨_, rfl⟩
                    have bD13 := bD12.below hbr bD12.lt
                    have hM13 := (hM12.below hbr).more hbr.size
                    clear bD12 bA12 bB12
                    have zD : W13.cell? ⟨gd, 7, none⟩ = some (Value.slice r6 dd.gl.length e6) := bD13.cell 7
                    have bA13 := bAr
                    have bB13 := bBr
                    have c13 := cr
                    clear hbr bAr bBr cr
                    go_wp2_with fail
                    go_loopw [107] (fun i wr => ∃ k : Nat, k ≤ dd.gl.length ∧ i = .int .i64 k ∧ Below W13.heap.size W13 wr) (fun i _ => dd.gl.length - (intOf i).toNat)
                    case atStart => exact ⟨0, Nat.zero_le _, rfl, Below.refl _ _⟩
                    case round =>
                      obtain ⟨k, hk, rfl, hbr⟩ := hrel
                      have bAr := bA13.below hbr bA13.lt
                      have bBr := bB13.below hbr bB13.lt
                      have cr := c13.trans (hbr.mono c13.size)
                      clear zD
                      by_cases hlt : k < dd.gl.length
                      · have hx : dd.gl[k]? = some dd.gl[k] := List.getElem?_eq_getElem hlt
                        have hme := HGL.out dd.gl[k] (List.getElem_mem hlt)
                        generalize dd.gl[k] = x at *
                        obtain ⟨ad, had, hab, _, hat⟩ := (hM13.gl.below hbr).at_ (k := k) (r := rowS x) (by rw [List.getElem?_map, hx]; rfl)
                        subst had
                        have hk0 : (0 : Int) ≤ (k : Int) := by omega
                        have hk1 : (k : Int) < (dd.gl.length : Int) := by omega
                        have e0 : wr.cell? (ad.add k) = some (.string x) := at_one hat
                        obtain ⟨hm1, hm2⟩ := hme
                        have HC1 := Lib.hid (atL_any p3 c3 a.leases x wr ((HA.out.l.below cr).more cr.size) (by omega))
                        have HC2 := Lib.hid (fun (W : World) (hW : Below w.heap.size w W) => atL_any q3 d3 b.leases x W ((HB.out.l.below hW).more hW.size) (by omega))
                        generalize ixBy LeaseD.job a.leases x 0 = i1 at *
                        generalize ixBy LeaseD.job b.leases x 0 = i2 at *
                        have g1 : ¬ (i1 < 0) := by omega
                        have g2 : ¬ (0 ≤ i2) := by omega
                        have g3 : decide (i1 < 0) = false := decide_eq_false g1
                        have g4 : decide (0 ≤ i2) = false := decide_eq_false g2
                        have fa : wr.cell? ⟨w.heap.size, 3, none⟩ = some (.slice p3 a.leases.length c3) := bAr.cell 3
                        clear hat hx
                        go_wp2_with fail
                        refine HC1.out.mono ?_
                        rintro e w1 ⟨rfl, hb1⟩
                        have c6 := cr.trans (hb1.mono cr.size)
                        have hr6 := hbr.trans (hb1.mono hbr.size)
                        have bB6 := bBr.below hb1 bBr.lt
                        have fb : w1.cell? ⟨w.heap.size + 1, 3, none⟩ = some (.slice q3 b.leases.length d3) := bB6.cell 3
                        clear e0 fa hb1 HC1
                        go_wp2_with fail
                        refine (HC2.out _ c6).mono ?_
                        rintro e w2 ⟨rfl, hb2⟩
                        have hr7 := hr6.trans (hb2.mono hr6.size)
                        clear fb hb2 c6 hr6 bB6 HC2
                        go_wp2_with fail
                        go_roundw
                        case rel => exact ⟨k + 1, by omega, by go_num, hr7⟩
                        case measure => simp [intOf]; omega
                      · obtain rfl : k = dd.gl.length := by omega
                        obtain ⟨W14, rfl⟩ : ∃ W : World, W = wr := ⟨_, rfl⟩
                        have bD14 := bD13.below hbr bD13.lt
                        have hM14 := (hM13.below hbr).more hbr.size
                        clear bD13 bA13 bB13
                        have y1 : W14.cell? ⟨w.heap.size, 1, none⟩ = some (.slice p1 a.jobs.length c1) := bAr.cell 1
                        have y2 : W14.cell? ⟨w.heap.size + 1, 1, none⟩ = some (.slice q1 b.jobs.length d1) := bBr.cell 1
                        have y3 : W14.cell? ⟨gd, 5, none⟩ = some (Value.slice r4 dd.gj.length e4) := bD14.cell 5
                        go_wp2_with fail
                        go_ret
                        exact ⟨rfl, cr⟩
  · have hne : ((diffE a b : Int) != 0) = true := by rw [bne_iff_ne]; omega
    clear hdd hDD
    generalize diffE a b = de at *
    go_enter Tryd.func6, Tryd.ntmps6
    go_wp2_with fail
    generalize (w.alloc (.cells #[Value.int .i64 a.rev, Value.slice p1 a.jobs.length c1, Value.slice p2 a.nodes.length c2, Value.slice p3 a.leases.length c3] 26)).alloc (.cells #[Value.int .i64 b.rev, Value.slice q1 b.jobs.length d1, Value.slice q2 b.nodes.length d2, Value.slice q3 b.leases.length d3] 26) = W1 at *
    refine (differed_any _ (HT.out.below hB0)).mono ?_
    rintro e W2 ⟨rfl, hb2⟩
    have cW := hB0.trans (hb2.mono hB0.size)
    have bA2 := bA.below hb2 bA.lt
    have bB2 := bB.below hb2 bB.lt
    clear bA bB hb2 hB0
    go_wp2_with (first | (refine wpList_load_blk rfl _ _ rfl w.heap.size rfl _ #[Value.int .i64 a.rev, Value.slice p1 a.jobs.length c1, Value.slice p2 a.nodes.length c2, Value.slice p3 a.leases.length c3] bA2 _ Tryd.underlying26 rfl state_size ?_) | (refine wpList_load_blk rfl _ _ rfl (w.heap.size + 1) rfl _ #[Value.int .i64 b.rev, Value.slice q1 b.jobs.length d1, Value.slice q2 b.nodes.length d2, Value.slice q3 b.leases.length d3] bB2 _ Tryd.underlying26 rfl state_size ?_))
    refine (HD.out _ cW).mono ?_
    rintro e W3 ⟨r1, r2, r3, r4, r5, r6, e1, e2, e3, e4, e5, e6, rfl, hO, hb3⟩
    have cW3 := cW.trans (hb3.mono cW.size)
    have bA3 := bA2.below hb3 bA2.lt
    have bB3 := bB2.below hb3 bB2.lt
    clear bA2 bB2 hb3 cW
    have cW4 := cW3.alloc cW3.size (.cells #[Value.int .i64 dd.frm, Value.int .i64 dd.upto, Value.slice r1 dd.jobs.length e1, Value.slice r2 dd.nodes.length e2, Value.slice r3 dd.leases.length e3, Value.slice r4 dd.gj.length e4, Value.slice r5 dd.gn.length e5, Value.slice r6 dd.gl.length e6] 51)
    have bA4 := bA3.alloc (.cells #[Value.int .i64 dd.frm, Value.int .i64 dd.upto, Value.slice r1 dd.jobs.length e1, Value.slice r2 dd.nodes.length e2, Value.slice r3 dd.leases.length e3, Value.slice r4 dd.gj.length e4, Value.slice r5 dd.gn.length e5, Value.slice r6 dd.gl.length e6] 51)
    have bB4 := bB3.alloc (.cells #[Value.int .i64 dd.frm, Value.int .i64 dd.upto, Value.slice r1 dd.jobs.length e1, Value.slice r2 dd.nodes.length e2, Value.slice r3 dd.leases.length e3, Value.slice r4 dd.gj.length e4, Value.slice r5 dd.gn.length e5, Value.slice r6 dd.gl.length e6] 51)
    have bD4 := Blk.new W3 51 #[Value.int .i64 dd.frm, Value.int .i64 dd.upto, Value.slice r1 dd.jobs.length e1, Value.slice r2 dd.nodes.length e2, Value.slice r3 dd.leases.length e3, Value.slice r4 dd.gj.length e4, Value.slice r5 dd.gn.length e5, Value.slice r6 dd.gl.length e6]
    have hM4 := (hO.below ((Below.refl _ _).alloc (Nat.le_refl _) (.cells #[Value.int .i64 dd.frm, Value.int .i64 dd.upto, Value.slice r1 dd.jobs.length e1, Value.slice r2 dd.nodes.length e2, Value.slice r3 dd.leases.length e3, Value.slice r4 dd.gj.length e4, Value.slice r5 dd.gn.length e5, Value.slice r6 dd.gl.length e6] 51))).m
    clear hO bA3 bB3 cW3 HD
    go_wp2_with (first | (refine wpList_store_new rfl _ _ _ rfl rfl 51 _ #[Value.int .i64 dd.frm, Value.int .i64 dd.upto, Value.slice r1 dd.jobs.length e1, Value.slice r2 dd.nodes.length e2, Value.slice r3 dd.leases.length e3, Value.slice r4 dd.gj.length e4, Value.slice r5 dd.gn.length e5, Value.slice r6 dd.gl.length e6] rfl delta_size rfl (one_d8 _ _ _ _ _ _ _ _ _ _ _ _ _ _ _ _ _ _ _ _) ?_))
    go_ret
    exact ⟨rfl, cW4⟩

theorem own : ownKnob Tryd.prog.godebug = none := by kernel_rfl
theorem laid : laidOutB Tryd.prog = true := by kernel_rfl
set_option maxRecDepth 100000 in
theorem contract (H : Type) (enc : TypeId × Value → H) (W : World) (base : Nat) (args : Array Value) (ds gs : List (DataW H)) (before : List MemPlace)
    (hval0 : ∀ (j : Nat) t v, Tryd.f6.params[j]? = some t → args[j]? = some v → Value.okWide Tryd.prog W .any base t v)
    (hW : DataW.Whole enc Tryd.prog Tryd.f6.params.toList Rows.deltaLeastSpec.vars false W args.toList ds gs before)
    (hsz0 : (DataW.weightsEach Tryd.prog (Tryd.f6.params.toList ++ Rows.deltaLeastSpec.plain.varTypes Tryd.prog) (ds ++ gs)).all (· ≤ reachBytes) = true)
    (hT : Tabs W) :
    Calls Tryd.prog 6 args W fun e W' => ∃ v, e = .returned v ∧ Rows.deltaLeastSpec.post enc Tryd.prog Tryd.f6 false true false false W args v W' := by
  have hval : ∀ (j : Nat) t v, Tryd.f6.params[j]? = some t → args[j]? = some v → Value.okWide Tryd.prog W .any base t v := hval0
  have hsz : (DataW.weightsEach Tryd.prog (Tryd.f6.params.toList ++ Rows.deltaLeastSpec.plain.varTypes Tryd.prog) (ds ++ gs)).all (· ≤ reachBytes) = true := hsz0
  have hlt : ∀ x ∈ before, x.block < W.heap.size := fun x hx => hW.lt x hx
  have hW' := hW
  obtain ⟨p, q, hA0, hV, rfl, hfz, hnd⟩ := hW
  have hA : DataW.TrodAll enc Tryd.prog W 0 (fun _ => true) true Tryd.f6.params.toList args.toList ds p := hA0
  rw [Tryd.params6] at hA hval hsz
  obtain ⟨v0, vs0, d0, ds0, p0, q0, hargs, rfl, rfl, h0, r0⟩ := trodAll_cons hA
  obtain ⟨v1, vs1, d1, ds1, p1, q1, rfl, rfl, rfl, h1, r1⟩ := trodAll_cons r0
  obtain ⟨rfl, rfl, rfl⟩ := trodAll_nil r1
  obtain rfl : args = #[v0, v1] := by cases args; simp_all
  obtain ⟨rfl, rfl⟩ := trodVars_none hV
  obtain ⟨s0, pj0, pn0, pl0, cj0, cn0, cl0, rfl, hm0, hk0⟩ := open_state (hval 0 26 v0 rfl rfl) h0 hsz (j := 0) rfl rfl
  obtain ⟨s1, pj1, pn1, pl1, cj1, cn1, cl1, rfl, hm1, hk1⟩ := open_state (hval 1 26 v1 rfl rfl) h1 hsz (j := 1) rfl rfl
  refine (walk s0 pj0 pn0 pl0 cj0 cn0 cl0 W hm0 hk0 s1 pj1 pn1 pl1 cj1 cn1 cl1 hm1 hk1 hT).mono fun e W' ⟨he, hb⟩ => ?_
  subst he
  exact ⟨_, rfl, law_post laid (by kernel_rfl) Tryd.underlying4 rfl rfl hW' rfl rfl rfl rfl hb⟩

theorem reads (os : Os) {H : Type} (enc : TypeId × Value → H) : ∃ places, DataW.whole enc Tryd.prog ((laidWorld os).forCall (fun _ _ => 0) ⟨#[], #[.agg #[.int .i64 0, .slice none 0 0, .slice none 0 0, .slice none 0 0], .agg #[.int .i64 0, .slice none 0 0, .slice none 0 0, .slice none 0 0]], []⟩).memory Tryd.f6.params.toList Rows.deltaLeastSpec.vars false (#[.agg #[.int .i64 0, .slice none 0 0, .slice none 0 0, .slice none 0 0], .agg #[.int .i64 0, .slice none 0 0, .slice none 0 0, .slice none 0 0]] : Array Value).toList 8 = some ([.agg [.lit (.int .i64 0), .nil, .nil, .nil], .agg [.lit (.int .i64 0), .nil, .nil, .nil]], [], places) :=
  ⟨[], by kernel_rfl⟩
set_option maxRecDepth 100000 in
theorem lifted (os : Os) (started : os.Started) (H : Type) (enc : TypeId × Value → H) (F : Stop.Interp) :
    ReturnsInHanded {} Tryd.checked os 6 .any ((OpenSpec.ofChange Rows.deltaLeastSpec).preRow enc Tryd.prog Tryd.f6 Rows.deltaLeastRow.domain false Rows.deltaLeastRow.laid) (((OpenSpec.ofChange Rows.deltaLeastSpec).at F).post enc Tryd.prog Tryd.f6 false true false false) := by
  obtain ⟨places, hx⟩ := reads os enc
  refine returnsInHanded_of_row (C := Tryd.checked) (s := (OpenSpec.ofChange Rows.deltaLeastSpec)) own started (by kernel_rfl) Tryd.func6
    (witness_row_atRef (enc := enc) (C := Tryd.checked) false (laidWorld os) #[.agg #[.int .i64 0, .slice none 0 0, .slice none 0 0, .slice none 0 0], .agg #[.int .i64 0, .slice none 0 0, .slice none 0 0, .slice none 0 0]] rfl (by kernel_rfl) (by kernel_rfl) (by kernel_rfl)
      (OpenSpec.preRow_of_cond 8 hx (by kernel_rfl) (fun k hk => by cases hk) (by kernel_rfl) (laid_met os _))) ?_
  intro W base args ds gs before hval0 hW _ hcond hsz0 hL _ _
  exact contract H enc W base args ds gs before hval0 hW hsz0 (tabs_of_laid hL)

theorem said : Rows.DeltaLeastSaid :=
  OpenClaim.holds_of_cond 6 Tryd.f6 rfl rfl rfl rfl rfl rfl rfl ⟨rfl, rfl, rfl, rfl, rfl⟩ rfl rfl rfl rfl rfl (by kernel_rfl) Tryd.func6 (by kernel_rfl)
    (of_decide_eq_true (by kernel_rfl)) (by unfold Func.isWrapper; first | (rw [if_pos (by decide +kernel)]; kernel_rfl) | (rw [if_neg (by decide +kernel)]; exact ⟨rfl, rfl⟩))
    (fun os started H enc _ F => by rw [OpenClaim.pre_eq_preRow]; exact lifted os started H enc F)

/-- No parameter wants a stand-in; the program's own looks are off. -/
theorem plain (f : FuncId) (fn : Func) (hf : Tryd.pinned.checked.prog.funcNamed "bracken/brackenkeep.DeltaLeast" = some f) (hfn : Tryd.pinned.checked.prog.funcs[f]? = some fn) :
    false = Tryd.pinned.checked.prog.looks [] ∧ ∀ (j : Nat) t, fn.params[j]? = some t → Tryd.pinned.checked.prog.wantsStandIn t = false := by
  obtain rfl : f = 6 := Option.some.inj ((show Tryd.prog.funcNamed "bracken/brackenkeep.DeltaLeast" = some 6 by kernel_rfl).symm.trans hf) |>.symm
  obtain rfl : fn = Tryd.f6 := (Option.some.inj (Tryd.func6.symm.trans hfn)).symm
  refine ⟨by kernel_rfl, fun j t ht => ?_⟩
  rw [Tryd.params6] at ht
  have hm := Array.mem_of_getElem? ht
  have hall : (#[26, 26] : Array TypeId).all (fun t => !Tryd.prog.wantsStandIn t) = true := by kernel_rfl
  have := Array.all_eq_true_iff_forall_mem.1 hall t (by simpa using hm)
  show Tryd.prog.wantsStandIn t = false
  simpa using this

/-- The statement. -/
theorem proved : Rows.DeltaLeastCardSaid :=
  Claim7.holds_tied_plain_at .later [] _ _ _ _ said (fun _ h => by cases h) (by kernel_rfl) (fun _ h => by cases h) deltaLeast_row_tie rfl ⟨rfl, rfl⟩ (by kernel_rfl) rfl plain (by kernel_rfl)
#print axioms proved
end Go.Proofs.YtnmokjgnbcfabaaDoor.deltaLeast
