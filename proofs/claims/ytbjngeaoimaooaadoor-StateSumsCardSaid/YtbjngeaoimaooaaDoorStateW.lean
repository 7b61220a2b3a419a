/-
  Contracts of state.Check, state.Used.
-/
import Derived.Test.YtbjngeaoimaooaaDoorCheckW
set_option linter.unusedVariables false
set_option linter.unusedSimpArgs false
namespace Go.Proofs.YtbjngeaoimaooaaDoor
open Go.RowKit
theorem check_at (s : St) (p1 p2 p3 : Option Addr) (c1 c2 c3 : Nat) (w : World) (hm : StM w w.heap.size p1 p2 p3 s) (hz : StSz s) (hT : Tabs w) (W : World) (hW : Below w.heap.size w W) :
    Calls Tryd.prog 35 #[.agg #[.int .i64 s.rev, .slice p1 s.jobs.length c1, .slice p2 s.nodes.length c2, .slice p3 s.leases.length c3]] W fun e w' => CheckPost W s e w' :=
  check_any s p1 p2 p3 c1 c2 c3 W ((hm.below hW).more hW.size) hz (hT.below hW)
set_option maxHeartbeats 1000000 in
set_option maxRecDepth 100000 in
theorem stCheck_any (s : St) (p1 p2 p3 : Option Addr) (c1 c2 c3 : Nat) (w : World) (hm : StM w w.heap.size p1 p2 p3 s) (hz : StSz s) (hT : Tabs w) :
    Calls Tryd.prog 15 #[.agg #[.int .i64 s.rev, .slice p1 s.jobs.length c1, .slice p2 s.nodes.length c2, .slice p3 s.leases.length c3]] w fun e w' => e = .returned (.int .i64 (checkE s : Int)) ∧ Below w.heap.size w w' := by
  have hc := Lib.hid (check_at s p1 p2 p3 c1 c2 c3 w hm hz hT)
  have hb0 : Below w.heap.size w (w.alloc (.cells #[Value.int .i64 s.rev, Value.slice p1 s.jobs.length c1, Value.slice p2 s.nodes.length c2, Value.slice p3 s.leases.length c3] 33)) := (Below.refl _ _).alloc (Nat.le_refl _) _
  clear hm hz hT
  go_enter Tryd.func15, Tryd.ntmps15
  go_wp2_with fail
  refine (hc.out _ hb0).mono ?_
  rintro e w1 ⟨hb', h⟩
  have hb := hb0.trans (hb'.mono hb0.size)
  rcases h with ⟨hne, rfl⟩ | ⟨h0, gt, bj, bn, bu, rfl, hT⟩
  · have HN := Lib.hid hne
    clear hne
    go_wp2_with fail
    go_ret
    exact ⟨rfl, hb⟩
  · have H0 := Lib.hid h0
    have HT := Lib.hid hT
    clear h0 hT
    go_wp2_with fail
    go_ret
    exact ⟨by rw [H0.out]; rfl, hb⟩
/-- What Used answers. -/
def usedR (s : St) (nm : ByteArray) : Int × Nat := if checkE s ≠ 0 then (0, checkE s) else if (nodeAt s.nodes nm).isSome then (usedBy s.jobs nm s.leases, 0) else (0, 6)
set_option maxHeartbeats 2000000 in
set_option maxRecDepth 100000 in
theorem stUsed_any (s : St) (nm : ByteArray) (p1 p2 p3 : Option Addr) (c1 c2 c3 : Nat) (w : World) (hm : StM w w.heap.size p1 p2 p3 s) (hz : StSz s) (hT : Tabs w) :
    Calls Tryd.prog 22 #[.agg #[.int .i64 s.rev, .slice p1 s.jobs.length c1, .slice p2 s.nodes.length c2, .slice p3 s.leases.length c3], .string nm] w fun e w' => e = .returned (.tuple #[.int .i64 (usedR s nm).1, .int .i64 ((usedR s nm).2 : Int)]) ∧ Below w.heap.size w w' := by
  have hc := Lib.hid (check_at s p1 p2 p3 c1 c2 c3 w hm hz hT)
  have hb0 : Below w.heap.size w (w.alloc (.cells #[Value.int .i64 s.rev, Value.slice p1 s.jobs.length c1, Value.slice p2 s.nodes.length c2, Value.slice p3 s.leases.length c3] 33)) := (Below.refl _ _).alloc (Nat.le_refl _) _
  clear hm hz hT
  go_enter Tryd.func22, Tryd.ntmps22
  go_wp2_with fail
  refine (hc.out _ hb0).mono ?_
  rintro e w1 ⟨hb', h⟩
  have hb := hb0.trans (hb'.mono hb0.size)
  rcases h with ⟨hne, rfl⟩ | ⟨h0, gt, bj, bn, bu, rfl, hT⟩
  · have hneb : ((checkE s : Int) != 0) = true := by rw [bne_iff_ne]; omega
    have hR : usedR s nm = (0, checkE s) := by unfold usedR; rw [if_pos hne]
    have HR := Lib.hid hR
    clear hne hR
    go_wp2_with fail
    go_ret2
    exact ⟨by rw [HR.out]; rfl, hb⟩
  · have HT := Lib.hid hT
    have H0 := Lib.hid h0
    have hzn := zero_node_lit
    have c0 : w1.cell? ⟨gt, 1, none⟩ = some (.map (some bn)) := hT.blk.cell 1
    have c0b : ∀ o1, (w1.alloc o1).cell? ⟨gt, 1, none⟩ = some (.map (some bn)) := fun o1 => (hT.blk.alloc o1).cell 1
    have hgt := hT.blk.lt
    have hln := fun (W : World) (hW : Below w1.heap.size w1 W) => (hT.below hW).lookN nm
    generalize (nodeAt s.nodes nm).getD zN = n at *
    unfold valN at hln
    have hlu := fun (W : World) (hW : Below w1.heap.size w1 W) => (hT.below hW).lookU nm
    have e1 := hln _ (Below.refl _ _)
    have e1d := hln _ (Below.refl _ _).drew
    have e2 := fun o => hln _ ((Below.refl _ _).alloc (Nat.le_refl _) o)
    have e2d := fun o => hln _ ((Below.refl _ _).alloc (Nat.le_refl _) o).drew
    have HLU := Lib.hid hlu
    clear h0 hT hln hlu
    cases hs : (nodeAt s.nodes nm).isSome
    all_goals
      rw [hs] at e1 e1d e2 e2d
      have hR : ∃ r, usedR s nm = r ∧ r = (if (nodeAt s.nodes nm).isSome then (usedBy s.jobs nm s.leases, 0) else (0, 6)) := ⟨_, rfl, by unfold usedR; rw [if_neg (by rw [H0.out]; simp)]⟩
      obtain ⟨r, hR, hr⟩ := hR
      rw [hs] at hr
      simp only [if_true, if_false, Bool.false_eq_true] at hr
      rw [hr] at hR
      have HR := Lib.hid hR
      clear hs hR hr
    · go_wp2_with fail
      go_ret2
      exact ⟨by rw [HR.out]; rfl, hb.trans (((Below.refl _ _).alloc (Nat.le_refl _) _).mono hb.size)⟩
    · have hb2 : Below w1.heap.size w1 (w1.alloc (.cells #[.string n.name, .int .i64 n.room, .string n.zone] 40)) := (Below.refl _ _).alloc (Nat.le_refl _) _
      have c2 : w1.cell? ⟨gt, 2, none⟩ = some (.map (some bu)) := HT.out.blk.cell 2
      have c2b : ∀ o1, (w1.alloc o1).cell? ⟨gt, 2, none⟩ = some (.map (some bu)) := fun o1 => (HT.out.blk.alloc o1).cell 2
      have d0 := HLU.out _ hb2
      go_wp2_with fail
      go_ret2
      exact ⟨by rw [HR.out]; rfl, hb.trans (hb2.mono hb.size)⟩
end Go.Proofs.YtbjngeaoimaooaaDoor
