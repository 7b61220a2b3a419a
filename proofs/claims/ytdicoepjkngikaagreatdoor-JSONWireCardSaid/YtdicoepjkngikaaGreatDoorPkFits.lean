/-
  Several texts in one: FitsW.
-/
import Derived.Test.YtdicoepjkngikaaGreatDoorPkStateB
import Derived.Test.YtdicoepjkngikaaGreatDoorPkFitsP
/-
  The contract of state.Fits.
-/
set_option linter.unusedVariables false
set_option linter.unusedSimpArgs false
namespace Go.Proofs.YtdicoepjkngikaaGreatDoor
open Go.RowKit
theorem stCheck_at (s : St) (p1 p2 p3 : Option Addr) (c1 c2 c3 : Nat) (w : World) (hm : StM w w.heap.size p1 p2 p3 s) (hz : StSz s) (hT : Tabs w) (W : World) (hW : Below w.heap.size w W) :
    Calls Tryz.prog 12 #[.agg #[.int .i64 s.rev, .slice p1 s.jobs.length c1, .slice p2 s.nodes.length c2, .slice p3 s.leases.length c3]] W fun e w' => e = .returned (.int .i64 (checkE s : Int)) ∧ Below W.heap.size W w' :=
  stCheck_any s p1 p2 p3 c1 c2 c3 W ((hm.below hW).more hW.size) hz (hT.below hW)
set_option maxHeartbeats 4000000 in
set_option maxRecDepth 100000 in
theorem stFits_any (s : St) (v : Int) (p1 p2 p3 : Option Addr) (c1 c2 c3 : Nat) (w : World) (hm : StM w w.heap.size p1 p2 p3 s) (hz : StSz s) (hT : Tabs w) :
    Calls Tryz.prog 14 #[.agg #[.int .i64 s.rev, .slice p1 s.jobs.length c1, .slice p2 s.nodes.length c2, .slice p3 s.leases.length c3], .int .i64 v] w fun e w' => e = .returned (.tuple #[.bool (fitsR s v).1, .int .i64 ((fitsR s v).2 : Int)]) ∧ Below w.heap.size w w' := by
  have hc := stCheck_at s p1 p2 p3 c1 c2 c3 w hm hz hT
  have hmj := hm.j
  have hmn := hm.n
  have hlj := hz.lj
  have hln := hz.ln
  have hb0 : Below w.heap.size w (w.alloc (.cells #[Value.int .i64 s.rev, Value.slice p1 s.jobs.length c1, Value.slice p2 s.nodes.length c2, Value.slice p3 s.leases.length c3] 26)) := (Below.refl _ _).alloc (Nat.le_refl _) _
  have bx0 := Blk.new w 26 #[Value.int .i64 s.rev, Value.slice p1 s.jobs.length c1, Value.slice p2 s.nodes.length c2, Value.slice p3 s.leases.length c3]
  have hwi := fun w => within_any v 1 3 w
  clear hm hz hT
  by_cases h0 : checkE s = 0
  · rw [h0] at hc
    cases hv : withinB v 1 3
    · have hR : fitsR s v = (false, 1) := by unfold fitsR; rw [if_neg (by rw [h0]; simp), hv]; rfl
      rw [hv] at hwi
      have HR := Lib.hid hR
      have HC := Lib.hid hc
      have HW := Lib.hid hwi
      clear hc hR h0 hv hwi
      go_enter Tryz.func14, Tryz.ntmps14
      go_wp2_with fail
      refine (HC.out _ hb0).mono ?_
      rintro e w1 ⟨rfl, hb1⟩
      have hB1 := hb0.trans (hb1.mono hb0.size)
      go_wp2_with fail
      refine (HW.out _).mono ?_
      rintro e w2 ⟨rfl, rfl⟩
      go_wp2_with fail
      go_ret2
      exact ⟨by rw [HR.out]; rfl, hB1⟩
    · have hR : fitsR s v = (fitsB s v, 0) := by unfold fitsR; rw [if_neg (by rw [h0]; simp), hv]; rfl
      have hv3 := withinB_iff.1 hv
      rw [hv] at hwi
      obtain ⟨F, hF⟩ : ∃ F, fitJ v = F := ⟨_, rfl⟩
      obtain ⟨G, hG⟩ : ∃ G, fitN v = G := ⟨_, rfl⟩
      obtain ⟨r1, hr1⟩ : ∃ r1, fitR v s = r1 := ⟨_, rfl⟩
      have hfs : fitsB s v = (r1 && s.jobs.all F && s.nodes.all G) := by unfold fitsB; rw [hF, hG, hr1]
      have hFx : ∀ x, F x = ((decide (2 < v) || x.tag.toList.isEmpty) && (decide (1 < v) || (x.tries == 0))) := fun x => by rw [← hF]; rfl
      have hGx : ∀ x, G x = (decide (1 < v) || x.zone.toList.isEmpty) := fun x => by rw [← hG]; rfl
      have hR1 : r1 = ((v == 3) || (s.rev == 0)) := by rw [← hr1]; rfl
      have HR := Lib.hid hR
      have HC := Lib.hid hc
      have HW := Lib.hid hwi
      have HFS := Lib.hid hfs
      have HF := Lib.hid hFx
      have HG := Lib.hid hGx
      have HR1 := Lib.hid hR1
      clear hc hR h0 hv hwi hfs hFx hGx hR1 hF hG hr1
      obtain rfl | rfl | rfl : v = 1 ∨ v = 2 ∨ v = 3 := by omega
      all_goals
        clear hv3
        go_enter Tryz.func14, Tryz.ntmps14
        go_wp2_with fail
        refine (HC.out _ hb0).mono ?_
        rintro e w1 ⟨rfl, hb1⟩
        have hB1 := hb0.trans (hb1.mono hb0.size)
        have bx1 := bx0.below hb1 bx0.lt
        have e0 : w1.cell? ⟨w.heap.size, 0, none⟩ = some (.int .i64 s.rev) := bx1.cell 0
        have e1 : w1.cell? ⟨w.heap.size, 1, none⟩ = some (.slice p1 s.jobs.length c1) := bx1.cell 1
        clear hb1
        go_wp2_with fail
        refine (HW.out _).mono ?_
        rintro e w2 ⟨rfl, rfl⟩
        first
          | (cases hz0 : (s.rev == 0)
             all_goals
               have hr1 := HR1.out
               rw [hz0] at hr1
               have HR2 := Lib.hid hr1
               clear hr1)
      all_goals
        go_wp2_with fail
        go_loopw [7, 30] (fun b i wr => ∃ k : Nat, k ≤ s.jobs.length ∧ i = .int .i64 k ∧ b = .bool (r1 && (s.jobs.take k).all F) ∧ Below w1.heap.size w1 wr) (fun _ i _ => s.jobs.length - (intOf i).toNat)
        case atStart => exact ⟨0, Nat.zero_le _, rfl, by rw [HR2.out]; rfl, Below.refl _ _⟩
        case round =>
          obtain ⟨k, hk, rfl, rfl, hbr⟩ := hrel
          by_cases hlt : k < s.jobs.length
          · have hx : s.jobs[k]? = some s.jobs[k] := List.getElem?_eq_getElem hlt
            have hA : (r1 && (s.jobs.take (k + 1)).all F) = ((r1 && (s.jobs.take k).all F) && F s.jobs[k]) := by rw [all_take F s.jobs k _ hx, Bool.and_assoc]
            have hFx := HF.out s.jobs[k]
            generalize s.jobs[k] = x at *
            obtain ⟨a, ha, hab, _, hat⟩ := (hmj.below (hB1.trans (hbr.mono hB1.size))).at_ (k := k) (r := rowJ x) (by rw [List.getElem?_map, hx]; rfl)
            subst ha
            have hb5 := hbr.alloc hbr.size (.cells #[Value.string x.name, Value.int .i64 x.prio, Value.int .i64 x.need, Value.int .i64 x.tries, Value.string x.tag] 49)
            generalize (r1 && (s.jobs.take k).all F) = cur at *
            cases cur
            all_goals cases ht : x.tag.toList.isEmpty
            all_goals cases hr : (x.tries == 0)
            all_goals
              rw [ht, hr] at hFx
              rw [hFx] at hA
              have HA := Lib.hid hA
              clear hA hFx hx
              go_wp2_with (refine wpList_load_at rfl _ _ rfl (a.add (k * 5)) rfl [Value.string x.name, Value.int .i64 x.prio, Value.int .i64 x.need, Value.int .i64 x.tries, Value.string x.tag] _ hat Tryz.underlying49 rfl job_size ?_)
              go_roundw
              case rel => exact ⟨k + 1, by omega, by go_num, by rw [HA.out]; rfl, hb5⟩
              case measure => simp [intOf]; omega
          · obtain rfl : k = s.jobs.length := by omega
            rw [List.take_length]
            have hB2 := hB1.trans (hbr.mono hB1.size)
            have e2 : wr.cell? ⟨w.heap.size, 2, none⟩ = some (.slice p2 s.nodes.length c2) := (bx1.below hbr bx1.lt).cell 2
            obtain ⟨r2, hr2⟩ : ∃ r2, (r1 && s.jobs.all F) = r2 := ⟨_, rfl⟩
            rw [hr2]
            have HR3 := Lib.hid hr2
            clear hr2
            go_wp2_with fail
            go_loopw [7, 57] (fun b i wx => ∃ k : Nat, k ≤ s.nodes.length ∧ i = .int .i64 k ∧ b = .bool (r2 && (s.nodes.take k).all G) ∧ Below wr.heap.size wr wx) (fun _ i _ => s.nodes.length - (intOf i).toNat)
            case atStart => exact ⟨0, Nat.zero_le _, rfl, by simp, Below.refl _ _⟩
            case round =>
              obtain ⟨k, hk, rfl, rfl, hbx⟩ := hrel
              by_cases hlt : k < s.nodes.length
              · have hx : s.nodes[k]? = some s.nodes[k] := List.getElem?_eq_getElem hlt
                have hA : (r2 && (s.nodes.take (k + 1)).all G) = ((r2 && (s.nodes.take k).all G) && G s.nodes[k]) := by rw [all_take G s.nodes k _ hx, Bool.and_assoc]
                have hGx := HG.out s.nodes[k]
                generalize s.nodes[k] = x at *
                obtain ⟨a, ha, hab, _, hat⟩ := (hmn.below (hB2.trans (hbx.mono hB2.size))).at_ (k := k) (r := rowN x) (by rw [List.getElem?_map, hx]; rfl)
                subst ha
                have hb5 := hbx.alloc hbx.size (.cells #[Value.string x.name, Value.int .i64 x.room, Value.string x.zone] 54)
                generalize (r2 && (s.nodes.take k).all G) = cur at *
                cases cur
                all_goals cases ht : x.zone.toList.isEmpty
                all_goals
                  rw [ht] at hGx
                  rw [hGx] at hA
                  have HA := Lib.hid hA
                  clear hA hGx hx
                  go_wp2_with (refine wpList_load_at rfl _ _ rfl (a.add (k * 3)) rfl [Value.string x.name, Value.int .i64 x.room, Value.string x.zone] _ hat Tryz.underlying54 rfl node_size ?_)
                  go_roundw
                  case rel => exact ⟨k + 1, by omega, by go_num, by rw [HA.out]; rfl, hb5⟩
                  case measure => simp [intOf]; omega
              · obtain rfl : k = s.nodes.length := by omega
                rw [List.take_length]
                have hB3 := hB2.trans (hbx.mono hB2.size)
                have hfin := HFS.out
                rw [HR3.out] at hfin
                have HFIN := Lib.hid hfin
                clear hfin
                generalize (r2 && s.nodes.all G) = res at *
                go_wp2_with fail
                go_ret2
                exact ⟨by rw [HR.out, HFIN.out]; rfl, hB3⟩
  · have hR : fitsR s v = (false, checkE s) := by unfold fitsR; rw [if_pos h0]
    have hne : ((checkE s : Int) != 0) = true := by rw [bne_iff_ne]; omega
    have HR := Lib.hid hR
    have HC := Lib.hid hc
    clear hc hR h0 hwi
    go_enter Tryz.func14, Tryz.ntmps14
    go_wp2_with fail
    refine (HC.out _ hb0).mono ?_
    rintro e w1 ⟨rfl, hb1⟩
    have hB1 := hb0.trans (hb1.mono hb0.size)
    go_wp2_with fail
    go_ret2
    exact ⟨by rw [HR.out]; rfl, hB1⟩
end Go.Proofs.YtdicoepjkngikaaGreatDoor
