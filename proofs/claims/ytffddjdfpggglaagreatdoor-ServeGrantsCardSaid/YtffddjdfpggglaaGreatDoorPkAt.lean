/-
  Several texts in one: AtJ, AtL.
-/
import Derived.Test.YtffddjdfpggglaaGreatDoorPkStateA
set_option linter.unusedVariables false
set_option linter.unusedSimpArgs false
set_option maxHeartbeats 16000000
set_option maxRecDepth 100000
namespace Go.Proofs.YtffddjdfpggglaaGreatDoor
open Go.RowKit
theorem atJ_any (p : Option Addr) (c : Nat) (l : List JobD) (nm : ByteArray) (w : World) (hel : Elts w w.heap.size 5 p (l.map rowJ)) (hl : l.length ≤ 4611686018427387904) :
    Calls Tryz.prog 21 #[.slice p l.length c, .string nm] w fun e w' => e = .returned (.int .i64 (ixBy JobD.name l nm 0)) ∧ Below w.heap.size w w' := by
  go_enter Tryz.func21, Tryz.ntmps21
  go_wp2_with fail
  go_loopw [9] (fun i wr => ∃ k : Nat, k ≤ l.length ∧ i = .int .i64 k ∧ Below w.heap.size w wr ∧ Hid (ixBy JobD.name l nm 0 = ixBy JobD.name (l.drop k) nm k)) (fun i _ => l.length - (intOf i).toNat)
  case atStart => exact ⟨0, Nat.zero_le _, rfl, Below.refl _ _, (show _ = _ from rfl)⟩
  case round =>
    obtain ⟨k, hk, rfl, hbr, HR⟩ := hrel
    by_cases hlt : k < l.length
    · have hx : l[k]? = some l[k] := List.getElem?_eq_getElem hlt
      have hdr := dropAt l k _ hx
      generalize l[k] = x at *
      obtain ⟨a, ha, hab, _, hat⟩ := (hel.below hbr).at_ (k := k) (r := rowJ x) (by rw [List.getElem?_map, hx]; rfl)
      subst ha
      have hb5 := hbr.alloc hbr.size (.cells #[Value.string x.name, Value.int .i64 x.prio, Value.int .i64 x.need, Value.int .i64 x.tries, Value.string x.tag] 34)
      have HR0 := HR.out
      rw [hdr] at HR0
      rw [ixBy_cons] at HR0
      by_cases hq : JobD.name x = nm
      · rw [if_pos hq] at HR0
        have hb : ((JobD.name x).toList == nm.toList) = true := by rw [hq]; simp
        have HF := Lib.hid HR0
        clear HR0 HR hdr hx hq
        go_wp2_with (refine wpList_load_at rfl _ _ rfl (a.add (k * 5)) rfl [Value.string x.name, Value.int .i64 x.prio, Value.int .i64 x.need, Value.int .i64 x.tries, Value.string x.tag] _ hat Tryz.underlying34 rfl job_size ?_)
        go_ret
        exact ⟨by rw [HF.out]; rfl, hb5⟩
      · rw [if_neg hq] at HR0
        have hb : ((JobD.name x).toList == nm.toList) = false := bytesNe hq
        have HF := Lib.hid HR0
        clear HR0 HR hdr hx hq
        go_wp2_with (refine wpList_load_at rfl _ _ rfl (a.add (k * 5)) rfl [Value.string x.name, Value.int .i64 x.prio, Value.int .i64 x.need, Value.int .i64 x.tries, Value.string x.tag] _ hat Tryz.underlying34 rfl job_size ?_)
        go_roundw
        case rel => exact ⟨k + 1, by omega, by go_num, hb5, HF.out⟩
        case measure => simp [intOf]; omega
    · obtain rfl : k = l.length := by omega
      have HR0 := HR.out
      rw [List.drop_length] at HR0
      have HF := Lib.hid HR0
      clear HR0 HR
      go_wp2_with fail
      go_ret
      exact ⟨by rw [HF.out]; rfl, hbr⟩
open Go.RowKit
theorem atL_any (p : Option Addr) (c : Nat) (l : List LeaseD) (nm : ByteArray) (w : World) (hel : Elts w w.heap.size 3 p (l.map rowL)) (hl : l.length ≤ 4611686018427387904) :
    Calls Tryz.prog 22 #[.slice p l.length c, .string nm] w fun e w' => e = .returned (.int .i64 (ixBy LeaseD.job l nm 0)) ∧ Below w.heap.size w w' := by
  go_enter Tryz.func22, Tryz.ntmps22
  go_wp2_with fail
  go_loopw [9] (fun i wr => ∃ k : Nat, k ≤ l.length ∧ i = .int .i64 k ∧ Below w.heap.size w wr ∧ Hid (ixBy LeaseD.job l nm 0 = ixBy LeaseD.job (l.drop k) nm k)) (fun i _ => l.length - (intOf i).toNat)
  case atStart => exact ⟨0, Nat.zero_le _, rfl, Below.refl _ _, (show _ = _ from rfl)⟩
  case round =>
    obtain ⟨k, hk, rfl, hbr, HR⟩ := hrel
    by_cases hlt : k < l.length
    · have hx : l[k]? = some l[k] := List.getElem?_eq_getElem hlt
      have hdr := dropAt l k _ hx
      generalize l[k] = x at *
      obtain ⟨a, ha, hab, _, hat⟩ := (hel.below hbr).at_ (k := k) (r := rowL x) (by rw [List.getElem?_map, hx]; rfl)
      subst ha
      have hb5 := hbr.alloc hbr.size (.cells #[Value.string x.job, Value.string x.node, Value.int .i64 x.till] 38)
      have HR0 := HR.out
      rw [hdr] at HR0
      rw [ixBy_cons] at HR0
      by_cases hq : LeaseD.job x = nm
      · rw [if_pos hq] at HR0
        have hb : ((LeaseD.job x).toList == nm.toList) = true := by rw [hq]; simp
        have HF := Lib.hid HR0
        clear HR0 HR hdr hx hq
        go_wp2_with (refine wpList_load_at rfl _ _ rfl (a.add (k * 3)) rfl [Value.string x.job, Value.string x.node, Value.int .i64 x.till] _ hat Tryz.underlying38 rfl lease_size ?_)
        go_ret
        exact ⟨by rw [HF.out]; rfl, hb5⟩
      · rw [if_neg hq] at HR0
        have hb : ((LeaseD.job x).toList == nm.toList) = false := bytesNe hq
        have HF := Lib.hid HR0
        clear HR0 HR hdr hx hq
        go_wp2_with (refine wpList_load_at rfl _ _ rfl (a.add (k * 3)) rfl [Value.string x.job, Value.string x.node, Value.int .i64 x.till] _ hat Tryz.underlying38 rfl lease_size ?_)
        go_roundw
        case rel => exact ⟨k + 1, by omega, by go_num, hb5, HF.out⟩
        case measure => simp [intOf]; omega
    · obtain rfl : k = l.length := by omega
      have HR0 := HR.out
      rw [List.drop_length] at HR0
      have HF := Lib.hid HR0
      clear HR0 HR
      go_wp2_with fail
      go_ret
      exact ⟨by rw [HF.out]; rfl, hbr⟩
end Go.Proofs.YtffddjdfpggglaaGreatDoor
