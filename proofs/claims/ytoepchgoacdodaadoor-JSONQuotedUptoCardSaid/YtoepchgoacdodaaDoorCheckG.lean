/-
  The contract of state.check, where revision, sizes, jobs and nodes are as they should be.
-/
import Derived.Test.YtoepchgoacdodaaDoorCheckH
set_option linter.unusedVariables false
set_option linter.unusedSimpArgs false
namespace Go.Proofs.YtoepchgoacdodaaDoor
open Go.RowKit

set_option maxHeartbeats 8000000 in
set_option maxRecDepth 100000 in
theorem check_good (s : St) (p1 p2 p3 : Option Addr) (c1 c2 c3 : Nat) (w : World) (hm : StM w w.heap.size p1 p2 p3 s) (hz : StSz s) (hT : Tabs w)
    (q0 : withinB s.rev 0 1099511627776 = true) (q2 : s.jobs.length ≤ 40) (q3 : s.leases.length ≤ 40) (q4 : s.nodes.length ≤ 20) (q5 : rowsE JobD.name jobE none s.jobs = 0) (q6 : rowsE NodeD.name nodeE none s.nodes = 0) :
    Calls Tryd.prog 11 #[.agg #[.int .i64 s.rev, .slice p1 s.jobs.length c1, .slice p2 s.nodes.length c2, .slice p3 s.leases.length c3]] w fun e w' => CheckPost w s e w' := by
  have hb0 : Below w.heap.size w (w.alloc (.cells #[Value.int .i64 s.rev, Value.slice p1 s.jobs.length c1, Value.slice p2 s.nodes.length c2, Value.slice p3 s.leases.length c3] 32)) := (Below.refl _ _).alloc (Nat.le_refl _) _
  have bx0 := Blk.new w 32 #[Value.int .i64 s.rev, Value.slice p1 s.jobs.length c1, Value.slice p2 s.nodes.length c2, Value.slice p3 s.leases.length c3]
  have hwi := fun w => within_any s.rev 0 1099511627776 w
  have hmj := hm.j
  have hmn := hm.n
  have hml := hm.l
  obtain ⟨hzj, hzn, hzr, hlj, hln, hll⟩ := hz
  have HZJ := Lib.hid hzj
  have HZN := Lib.hid hzn
  have HZR := Lib.hid hzr
  clear hzj hzn hzr hm
  have hRJ := fun (W : World) (hW : Below w.heap.size w W) => rowsJ_any p1 c1 s.jobs W ((hmj.below hW).more hW.size) HZJ.out hlj (hT.below hW)
  have hRN := fun (W : World) (hW : Below w.heap.size w W) => rowsN_any p2 c2 s.nodes W ((hmn.below hW).more hW.size) HZN.out hln (hT.below hW)
  rw [q0] at hwi
  have HW := Lib.hid hwi
  clear hwi
  rw [q5] at hRJ
  rw [q6] at hRN
  have q1 : ¬ (40 < s.jobs.length ∨ 40 < s.leases.length ∨ 20 < s.nodes.length) := by omega
  have HRJ := Lib.hid hRJ
  have HRN := Lib.hid hRN
  obtain ⟨aj, sj⟩ := rowsE_ok.1 q5
  obtain ⟨an, sn⟩ := rowsE_ok.1 q6
  have hE : checkE s = if rowsE LeaseD.job (leaseE s.jobs s.nodes) none s.leases ≠ 0 then rowsE LeaseD.job (leaseE s.jobs s.nodes) none s.leases else if roomOk s then 0 else 9 := by
    unfold checkE; rw [if_neg (by rw [q0]; simp), if_neg q1, if_neg (by rw [q5]; simp), if_neg (by rw [q6]; simp)]
  have HE := Lib.hid hE
  have HAJ := Lib.hid aj
  have HSJ := Lib.hid sj
  have HSN := Lib.hid sn
  clear hE q5 q6 hRJ hRN aj sj an sn q1
  have hmm := @run_makeMap Tryd.prog
  have q2b : decide (40 < (s.jobs.length : Int)) = false := decide_eq_false (by omega)
  have q3b : decide (40 < (s.leases.length : Int)) = false := decide_eq_false (by omega)
  have q4b : decide (20 < (s.nodes.length : Int)) = false := decide_eq_false (by omega)
  go_enter Tryd.func11, Tryd.ntmps11
  go_wp2_with fail
  refine (HW.out _).mono ?_
  rintro e w1 ⟨rfl, rfl⟩
  go_wp2_with fail
  refine (HRJ.out _ hb0).mono ?_
  rintro e w2 ⟨rfl, hb2⟩
  have hB2 := hb0.trans (hb2.mono hb0.size)
  have bx2 := bx0.below hb2 bx0.lt
  have c2_1 : w2.cell? ⟨w.heap.size, 1, none⟩ = some (Value.slice p1 s.jobs.length c1) := bx2.cell 1
  have c2_2 : w2.cell? ⟨w.heap.size, 2, none⟩ = some (Value.slice p2 s.nodes.length c2) := bx2.cell 2
  have c2_3 : w2.cell? ⟨w.heap.size, 3, none⟩ = some (Value.slice p3 s.leases.length c3) := bx2.cell 3
  have hb2' := hb2
  clear hb2 bx2
  go_wp2_with fail
  refine (HRN.out _ hB2).mono ?_
  rintro e w3 ⟨rfl, hb3⟩
  have hB3 := hB2.trans (hb3.mono hB2.size)
  have bx3 := (bx0.below hb2' bx0.lt).below hb3 (Nat.lt_of_lt_of_le bx0.lt hb2'.size)
  have c3_1 : w3.cell? ⟨w.heap.size, 1, none⟩ = some (Value.slice p1 s.jobs.length c1) := bx3.cell 1
  have c3_2 : w3.cell? ⟨w.heap.size, 2, none⟩ = some (Value.slice p2 s.nodes.length c2) := bx3.cell 2
  have c3_3 : w3.cell? ⟨w.heap.size, 3, none⟩ = some (Value.slice p3 s.leases.length c3) := bx3.cell 3
  clear hb3 c2_1 c2_2 c2_3
  have g0 : w.heap.size < w3.heap.size := bx3.lt
  have g1 : w.heap.size < w3.heap.size + 1 := by omega
  have g2 : w.heap.size < w3.heap.size + 1 + 1 := by omega
  have g3 : w.heap.size < w3.heap.size + 1 + 1 + 1 := by omega
  go_wp2_with fail
  have hT4 := tables_made w3
  have hB4 : Below w.heap.size w ((((w3.alloc (.map #[] 0)).alloc (.map #[] 0)).alloc (.map #[] 0)).alloc (.cells #[.map (some w3.heap.size), .map (some (w3.heap.size + 1)), .map (some (w3.heap.size + 1 + 1))] 65)) :=
    (((hB3.alloc hB3.size _).alloc (Nat.le_trans hB3.size (by simp)) _).alloc (Nat.le_trans hB3.size (by simp; omega)) _).alloc (Nat.le_trans hB3.size (by simp; omega)) _
  have bx4 : Blk ((((w3.alloc (.map #[] 0)).alloc (.map #[] 0)).alloc (.map #[] 0)).alloc (.cells #[.map (some w3.heap.size), .map (some (w3.heap.size + 1)), .map (some (w3.heap.size + 1 + 1))] 65)) w.heap.size 32 _ := (((bx3.alloc _).alloc _).alloc _).alloc _
  have n1 : w3.heap.size + 1 + 1 + 1 ≠ w3.heap.size ∧ w3.heap.size + 1 ≠ w3.heap.size ∧ w3.heap.size + 1 + 1 ≠ w3.heap.size := by omega
  have n2 : w3.heap.size + 1 + 1 + 1 ≠ w3.heap.size + 1 ∧ w3.heap.size ≠ w3.heap.size + 1 ∧ w3.heap.size + 1 + 1 ≠ w3.heap.size + 1 := by omega
  have n3 : w3.heap.size + 1 + 1 + 1 ≠ w3.heap.size + 1 + 1 ∧ w3.heap.size ≠ w3.heap.size + 1 + 1 ∧ w3.heap.size + 1 ≠ w3.heap.size + 1 + 1 := by omega
  clear bx3 c3_1 c3_2 c3_3 hB2 hB3 hb2'
  generalize ((((w3.alloc (.map #[] 0)).alloc (.map #[] 0)).alloc (.map #[] 0)).alloc (.cells #[.map (some w3.heap.size), .map (some (w3.heap.size + 1)), .map (some (w3.heap.size + 1 + 1))] 65)) = W4 at *
  generalize w3.heap.size + 1 + 1 + 1 = gt at *
  generalize w3.heap.size + 1 + 1 = bu at *
  generalize w3.heap.size + 1 = bn at *
  generalize w3.heap.size = bj at *
  go_loopw [56] (fun i wr => ∃ k : Nat, k ≤ s.jobs.length ∧ i = .int .i64 k ∧ Below w.heap.size w wr ∧ Hid (TabIs wr gt bj bn bu (s.jobs.take k) [] (fun _ => 0)) ∧ Blk wr w.heap.size 32 #[Value.int .i64 s.rev, Value.slice p1 s.jobs.length c1, Value.slice p2 s.nodes.length c2, Value.slice p3 s.leases.length c3]) (fun i _ => s.jobs.length - (intOf i).toNat)
  case atStart => exact ⟨0, Nat.zero_le _, rfl, hB4, (show TabIs _ gt bj bn bu _ [] _ from hT4), bx4⟩
  case round =>
    obtain ⟨k, hk, rfl, hbr, HT, bxr⟩ := hrel
    clear hT4 hB4 bx4
    by_cases hlt : k < s.jobs.length
    · have hx : s.jobs[k]? = some s.jobs[k] := List.getElem?_eq_getElem hlt
      have hbe := sorted_before HSJ.out hx
      have htk : s.jobs.take (k + 1) = s.jobs.take k ++ [s.jobs[k]] := by rw [List.take_add_one, hx, Option.toList_some]
      generalize s.jobs[k] = x at *
      obtain ⟨a, ha, hab, _, hat⟩ := (hmj.below hbr).at_ (k := k) (r := rowJ x) (by rw [List.getElem?_map, hx]; rfl)
      subst ha
      have hb5 := hbr.alloc hbr.size (.cells #[Value.string x.name, Value.int .i64 x.prio, Value.int .i64 x.need, Value.int .i64 x.tries, Value.string x.tag] 44)
      have hb' : Below wr.heap.size wr (wr.alloc (.cells #[Value.string x.name, Value.int .i64 x.prio, Value.int .i64 x.need, Value.int .i64 x.tries, Value.string x.tag] 44)) := (Below.refl _ _).alloc (Nat.le_refl _) _
      have bJ := Blk.new wr 44 #[Value.string x.name, Value.int .i64 x.prio, Value.int .i64 x.need, Value.int .i64 x.tries, Value.string x.tag]
      have hTd := (HT.out.below hb').below (Below.refl _ _).drew
      obtain ⟨w5, hup, hT5, hg5⟩ := hTd.putJ n1 x (jobAt_none hbe)
      unfold valJ at hup
      have d0 : (wr.alloc (.cells #[Value.string x.name, Value.int .i64 x.prio, Value.int .i64 x.need, Value.int .i64 x.tries, Value.string x.tag] 44)).cell? ⟨gt, 0, none⟩ = some (.map (some bj)) := (HT.out.below hb').blk.cell 0
      have e0 : (wr.alloc (.cells #[Value.string x.name, Value.int .i64 x.prio, Value.int .i64 x.need, Value.int .i64 x.tries, Value.string x.tag] 44)).cell? ⟨wr.heap.size, 0, none⟩ = some (Value.string x.name) := bJ.cell 0
      have e1 : (wr.alloc (.cells #[Value.string x.name, Value.int .i64 x.prio, Value.int .i64 x.need, Value.int .i64 x.tries, Value.string x.tag] 44)).cell? ⟨wr.heap.size, 1, none⟩ = some (Value.int .i64 x.prio) := bJ.cell 1
      have e2 : (wr.alloc (.cells #[Value.string x.name, Value.int .i64 x.prio, Value.int .i64 x.need, Value.int .i64 x.tries, Value.string x.tag] 44)).cell? ⟨wr.heap.size, 2, none⟩ = some (Value.int .i64 x.need) := bJ.cell 2
      have e3 : (wr.alloc (.cells #[Value.string x.name, Value.int .i64 x.prio, Value.int .i64 x.need, Value.int .i64 x.tries, Value.string x.tag] 44)).cell? ⟨wr.heap.size, 3, none⟩ = some (Value.int .i64 x.tries) := bJ.cell 3
      have e4 : (wr.alloc (.cells #[Value.string x.name, Value.int .i64 x.prio, Value.int .i64 x.need, Value.int .i64 x.tries, Value.string x.tag] 44)).cell? ⟨wr.heap.size, 4, none⟩ = some (Value.string x.tag) := bJ.cell 4
      have bxd : Blk (wr.alloc (.cells #[Value.string x.name, Value.int .i64 x.prio, Value.int .i64 x.need, Value.int .i64 x.tries, Value.string x.tag] 44)).drew w.heap.size 32 _ := bxr.alloc _
      rw [← htk] at hT5
      have HT5 := Lib.hid hT5
      clear hT5 hTd hbe htk hx
      go_wp2_with (refine wpList_load_at rfl _ _ rfl (a.add (k * 5)) rfl [Value.string x.name, Value.int .i64 x.prio, Value.int .i64 x.need, Value.int .i64 x.tries, Value.string x.tag] _ hat Tryd.underlying44 rfl job_size ?_)
      have hb6 : Below w.heap.size w w5 := grown_above hb5.drew hg5 (by omega) hb5.drew.size
      have bx5 := bxd.gr hg5 (show w.heap.size ≠ bj by omega)
      clear hb5 hb' bJ bxd hg5 hat bxr
      generalize (wr.alloc (.cells #[Value.string x.name, Value.int .i64 x.prio, Value.int .i64 x.need, Value.int .i64 x.tries, Value.string x.tag] 44)) = W5 at *
      go_still_tail 7, (by kernel_rfl)
      change wpList _ _ _ _ _ W5.drew
      clear d0 e0 e1 e2 e3 e4
      generalize W5.drew = W6 at *
      go_wp2_with fail
      go_roundw
      case rel => exact ⟨k + 1, by omega, by go_num, hb6, HT5.out, bx5⟩
      case measure => simp [intOf]; omega
    · obtain rfl : k = s.jobs.length := by omega
      have hT5 := HT.out
      rw [List.take_length] at hT5
      have e2 : wr.cell? ⟨w.heap.size, 2, none⟩ = some (Value.slice p2 s.nodes.length c2) := bxr.cell 2
      clear HT
      go_wp2_with fail
      go_loopw [71] (fun i wr => ∃ k : Nat, k ≤ s.nodes.length ∧ i = .int .i64 k ∧ Below w.heap.size w wr ∧ Hid (TabIs wr gt bj bn bu s.jobs (s.nodes.take k) (fun _ => 0)) ∧ Blk wr w.heap.size 32 #[Value.int .i64 s.rev, Value.slice p1 s.jobs.length c1, Value.slice p2 s.nodes.length c2, Value.slice p3 s.leases.length c3]) (fun i _ => s.nodes.length - (intOf i).toNat)
      case atStart => exact ⟨0, Nat.zero_le _, rfl, hbr, (show TabIs _ gt bj bn bu _ _ _ from hT5), bxr⟩
      case round =>
        clear hT5 hbr bxr e2
        obtain ⟨k, hk, rfl, hbr, HT, bxr⟩ := hrel
        by_cases hlt : k < s.nodes.length
        · have hx : s.nodes[k]? = some s.nodes[k] := List.getElem?_eq_getElem hlt
          have hbe := sorted_before HSN.out hx
          have htk : s.nodes.take (k + 1) = s.nodes.take k ++ [s.nodes[k]] := by rw [List.take_add_one, hx, Option.toList_some]
          generalize s.nodes[k] = x at *
          obtain ⟨a, ha, hab, _, hat⟩ := (hmn.below hbr).at_ (k := k) (r := rowN x) (by rw [List.getElem?_map, hx]; rfl)
          subst ha
          have hb5 := hbr.alloc hbr.size (.cells #[Value.string x.name, Value.int .i64 x.room, Value.string x.zone] 48)
          have hb' : Below wr.heap.size wr (wr.alloc (.cells #[Value.string x.name, Value.int .i64 x.room, Value.string x.zone] 48)) := (Below.refl _ _).alloc (Nat.le_refl _) _
          have bJ := Blk.new wr 48 #[Value.string x.name, Value.int .i64 x.room, Value.string x.zone]
          have hTd := (HT.out.below hb').below (Below.refl _ _).drew
          obtain ⟨w5, hup, hT5, hg5⟩ := hTd.putN n2 x (nodeAt_none hbe)
          unfold valN at hup
          have d0 : (wr.alloc (.cells #[Value.string x.name, Value.int .i64 x.room, Value.string x.zone] 48)).cell? ⟨gt, 1, none⟩ = some (.map (some bn)) := (HT.out.below hb').blk.cell 1
          have e0 : (wr.alloc (.cells #[Value.string x.name, Value.int .i64 x.room, Value.string x.zone] 48)).cell? ⟨wr.heap.size, 0, none⟩ = some (Value.string x.name) := bJ.cell 0
          have e1 : (wr.alloc (.cells #[Value.string x.name, Value.int .i64 x.room, Value.string x.zone] 48)).cell? ⟨wr.heap.size, 1, none⟩ = some (Value.int .i64 x.room) := bJ.cell 1
          have e2 : (wr.alloc (.cells #[Value.string x.name, Value.int .i64 x.room, Value.string x.zone] 48)).cell? ⟨wr.heap.size, 2, none⟩ = some (Value.string x.zone) := bJ.cell 2
          have bxd : Blk (wr.alloc (.cells #[Value.string x.name, Value.int .i64 x.room, Value.string x.zone] 48)).drew w.heap.size 32 _ := bxr.alloc _
          rw [← htk] at hT5
          have HT5 := Lib.hid hT5
          clear hT5 hTd hbe htk hx
          go_wp2_with (refine wpList_load_at rfl _ _ rfl (a.add (k * 3)) rfl [Value.string x.name, Value.int .i64 x.room, Value.string x.zone] _ hat Tryd.underlying48 rfl node_size ?_)
          have hb6 : Below w.heap.size w w5 := grown_above hb5.drew hg5 (by omega) hb5.drew.size
          have bx5 := bxd.gr hg5 (show w.heap.size ≠ bn by omega)
          clear hb5 hb' bJ bxd hg5 hat bxr
          generalize (wr.alloc (.cells #[Value.string x.name, Value.int .i64 x.room, Value.string x.zone] 48)) = W5 at *
          go_still_tail 7, (by kernel_rfl)
          change wpList _ _ _ _ _ W5.drew
          clear d0 e0 e1 e2
          generalize W5.drew = W6 at *
          go_wp2_with fail
          go_roundw
          case rel => exact ⟨k + 1, by omega, by go_num, hb6, HT5.out, bx5⟩
          case measure => simp [intOf]; omega
        · obtain rfl : k = s.nodes.length := by omega
          have hT5 := HT.out
          rw [List.take_length] at hT5
          have e3 : wr.cell? ⟨w.heap.size, 3, none⟩ = some (Value.slice p3 s.leases.length c3) := bxr.cell 3
          have hRL := rowsL_any p3 c3 s.leases gt bj bn bu w.heap.size s.jobs s.nodes wr hT5 n3 (needOf_bd HAJ.out) q3 (hml.below hbr) hbr.size (by omega)
          unfold RowsLPost at hRL
          clear HT hT5
          by_cases q7 : rowsE LeaseD.job (leaseE s.jobs s.nodes) none s.leases = 0
          · rw [q7] at hRL
            have HRL := Lib.hid hRL
            have hE2 := HE.out
            rw [if_neg (by rw [q7]; simp)] at hE2
            have HE2 := Lib.hid hE2
            clear hRL q7 hE2 HE
            go_wp2_with fail
            refine HRL.out.mono ?_
            rintro e w6 ⟨rfl, hg6, ht6⟩
            have hT6 := ht6 trivial
            have hB6 := grown_above hbr hg6 (by omega) hbr.size
            have bx6 := bxr.gr hg6 (show w.heap.size ≠ bu by omega)
            have e2 : w6.cell? ⟨w.heap.size, 2, none⟩ = some (Value.slice p2 s.nodes.length c2) := bx6.cell 2
            clear hg6 bxr e3 ht6 HRL hbr
            go_wp2_with fail
            go_loopw [94] (fun i wr => ∃ k : Nat, k ≤ s.nodes.length ∧ i = .int .i64 k ∧ Below w6.heap.size w6 wr ∧ Hid (∀ y ∈ s.nodes.take k, usedBy s.jobs y.name s.leases ≤ y.room)) (fun i _ => s.nodes.length - (intOf i).toNat)
            case atStart => exact ⟨0, Nat.zero_le _, rfl, Below.refl _ _, (show ∀ y ∈ s.nodes.take 0, _ from fun y hy => by simp at hy)⟩
            case round =>
              obtain ⟨k, hk, rfl, hbr, HA⟩ := hrel
              by_cases hlt : k < s.nodes.length
              · have hx : s.nodes[k]? = some s.nodes[k] := List.getElem?_eq_getElem hlt
                have hmem : s.nodes[k] ∈ s.nodes := List.getElem_mem hlt
                have htk : s.nodes.take (k + 1) = s.nodes.take k ++ [s.nodes[k]] := by rw [List.take_add_one, hx, Option.toList_some]
                generalize s.nodes[k] = x at *
                obtain ⟨a, ha, hab, _, hat⟩ := (hmn.below (hB6.trans (hbr.mono hB6.size))).at_ (k := k) (r := rowN x) (by rw [List.getElem?_map, hx]; rfl)
                subst ha
                have hb5 := hbr.alloc hbr.size (.cells #[Value.string x.name, Value.int .i64 x.room, Value.string x.zone] 48)
                have bJ := Blk.new wr 48 #[Value.string x.name, Value.int .i64 x.room, Value.string x.zone]
                have hT7 := hT6.below hb5
                have hlk := fun n => (hT6.below (below_drewN hb5 n)).lookU x.name
                have d0 : (wr.alloc (.cells #[Value.string x.name, Value.int .i64 x.room, Value.string x.zone] 48)).cell? ⟨gt, 2, none⟩ = some (.map (some bu)) := hT7.blk.cell 2
                have e0 : (wr.alloc (.cells #[Value.string x.name, Value.int .i64 x.room, Value.string x.zone] 48)).cell? ⟨wr.heap.size, 0, none⟩ = some (Value.string x.name) := bJ.cell 0
                have e1 : (wr.alloc (.cells #[Value.string x.name, Value.int .i64 x.room, Value.string x.zone] 48)).cell? ⟨wr.heap.size, 1, none⟩ = some (Value.int .i64 x.room) := bJ.cell 1
                have e2 : (wr.alloc (.cells #[Value.string x.name, Value.int .i64 x.room, Value.string x.zone] 48)).cell? ⟨wr.heap.size, 2, none⟩ = some (Value.string x.zone) := bJ.cell 2
                have HM := Lib.hid hmem
                have HTK := Lib.hid htk
                clear htk hx hT7 hmem
                go_wp2_with (refine wpList_load_at rfl _ _ rfl (a.add (k * 3)) rfl [Value.string x.name, Value.int .i64 x.room, Value.string x.zone] _ hat Tryd.underlying48 rfl node_size ?_)
                clear bJ hat
                generalize (wr.alloc (.cells #[Value.string x.name, Value.int .i64 x.room, Value.string x.zone] 48)) = W5 at *
                by_cases hov : x.room < usedBy s.jobs x.name s.leases
                · have hr9 : roomOk s = false := by
                    cases hro : roomOk s
                    · rfl
                    · unfold roomOk at hro
                      have := of_decide_eq_true (List.all_eq_true.1 hro x HM.out)
                      omega
                  have HR9 := Lib.hid hr9
                  clear hr9
                  go_quiet (fail)
                  go_wp2_with fail
                  go_ret2
                  exact ⟨hB6.trans ((below_drewN hb5 _).mono hB6.size), .inl ⟨by rw [HE2.out, HR9.out]; decide, by rw [HE2.out, HR9.out]; rfl⟩⟩
                · go_quiet (fail)
                  go_wp2_with fail
                  have hov2 := hov
                  go_roundw
                  case rel =>
                    refine ⟨k + 1, by omega, by go_num, below_drewN hb5 _, ?_⟩
                    show ∀ y ∈ s.nodes.take (k + 1), _
                    rw [HTK.out]
                    intro y hy
                    rcases List.mem_append.1 hy with hy | hy
                    · exact HA.out y hy
                    · simp at hy; subst hy; omega
                  case measure => simp [intOf]; omega
              · obtain rfl : k = s.nodes.length := by omega
                have hA := HA.out
                rw [List.take_length] at hA
                have hro : roomOk s = true := by
                  unfold roomOk
                  rw [List.all_eq_true]
                  intro y hy
                  exact decide_eq_true (hA y hy)
                have HRO := Lib.hid hro
                have HT8 := Lib.hid (hT6.below hbr)
                clear hA HA hro hT6
                go_wp2_with fail
                go_ret2
                exact ⟨hB6.trans (hbr.mono hB6.size), .inr ⟨by rw [HE2.out, HRO.out]; rfl, gt, bj, bn, bu, rfl, HT8.out⟩⟩
          · have hne : ((rowsE LeaseD.job (leaseE s.jobs s.nodes) none s.leases : Int) != 0) = true := by rw [bne_iff_ne]; omega
            have hE2 := HE.out
            rw [if_pos q7] at hE2
            have HRL := Lib.hid hRL
            have HE2 := Lib.hid hE2
            have HN7 := Lib.hid q7
            clear hRL q7 hE2 HE
            go_wp2_with fail
            refine HRL.out.mono ?_
            rintro e w6 ⟨rfl, hg6, _⟩
            have hB6 := grown_above hbr hg6 (by omega) hbr.size
            go_wp2_with fail
            go_ret2
            exact ⟨hB6, .inl ⟨by rw [HE2.out]; exact HN7.out, by rw [HE2.out]; rfl⟩⟩
end Go.Proofs.YtoepchgoacdodaaDoor
