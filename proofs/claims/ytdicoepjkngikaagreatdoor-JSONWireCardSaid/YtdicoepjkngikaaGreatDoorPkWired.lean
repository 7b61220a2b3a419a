/-
  Several texts in one: WiredW.
-/
import Derived.Test.YtdicoepjkngikaaGreatDoorPkEnc
import Derived.Test.YtdicoepjkngikaaGreatDoorPkDec
import Derived.Test.YtdicoepjkngikaaGreatDoorPkEq
import Derived.Deep.RegionHeld3
/-
  The laws' own fact 'wired'.
-/
set_option linter.unusedVariables false
set_option linter.unusedSimpArgs false
namespace Go.Proofs.YtdicoepjkngikaaGreatDoor
open Go.RowKit
def sampleB : List UInt8 := [4, 2, 1, 97, 0, 3, 0, 0, 1, 98, 0, 2, 0, 1, 120, 1, 1, 110, 4, 0, 1, 1, 97, 1, 110, 9]
theorem sample_enc : encR 3 sampleS = (sampleB, 0) := by decide +kernel
theorem sample_dec : decT 3 sampleB = (sampleS, 0) := by decide +kernel
set_option maxHeartbeats 4000000 in
set_option maxRecDepth 100000 in
theorem wired_any (w : World) (hT : Tabs w) : Calls Tryz.prog 5 #[] w fun e w' => e = .returned (.bool true) ∧ Below w.heap.size w w' := by
  have hzs := zero_state_lit
  go_enter Tryz.func5, Tryz.ntmps5
  go_wp2_with fail
  refine (sample_any _).mono ?_
  rintro e w1 ⟨bj, bn, bl, rfl, b1, b2, b3, hB1, hbl⟩
  have hm : StM w1 _ (some ⟨bj, 0, none⟩) (some ⟨bn, 0, none⟩) (some ⟨bl, 0, none⟩) sampleS := ⟨.of_blk (by decide) b1 rfl, .of_blk (by decide) b2 rfl, .of_blk (by decide) b3 rfl⟩
  have hE := encode_state sampleS 3 _ _ _ 2 1 1 w1 hm sampleS_sz (hT.below hB1)
  rw [sample_enc] at hE
  have HE := Lib.hid hE
  clear hE hm b1 b2 b3
  go_wp2_with fail
  refine HE.out.mono ?_
  rintro e w2 ⟨rfl, hb2⟩
  have hB2 := hB1.trans (hb2.mono hB1.size)
  have hD := decode_state (bstr sampleB) 3 w2 (by decide) (hT.below hB2)
  rw [bstr_list] at hD
  have HD := Lib.hid hD
  clear hD HE hb2
  go_wp2_with fail
  refine HD.out.mono ?_
  rintro e w3 ⟨s, er, p1, p2, p3, c1, c2, c3, rfl, hm, _, hb3, hd⟩
  rw [sample_dec] at hd
  injection hd with h1 h2
  subst h1 h2
  have hB3 := hB2.trans (hb3.mono hB2.size)
  have hB4 := hB3.alloc hB3.size (.cells #[Value.int .i64 sampleS.rev, Value.slice p1 sampleS.jobs.length c1, Value.slice p2 sampleS.nodes.length c2, Value.slice p3 sampleS.leases.length c3] 26)
  have bs := Blk.new w3 26 #[Value.int .i64 sampleS.rev, Value.slice p1 sampleS.jobs.length c1, Value.slice p2 sampleS.nodes.length c2, Value.slice p3 sampleS.leases.length c3]
  have hm4 := (hm.below ((Below.refl w3.heap.size w3).alloc (Nat.le_refl _) (.cells #[Value.int .i64 sampleS.rev, Value.slice p1 sampleS.jobs.length c1, Value.slice p2 sampleS.nodes.length c2, Value.slice p3 sampleS.leases.length c3] 26))).more (B' := (w3.alloc (.cells #[Value.int .i64 sampleS.rev, Value.slice p1 sampleS.jobs.length c1, Value.slice p2 sampleS.nodes.length c2, Value.slice p3 sampleS.leases.length c3] 26)).heap.size) (by simp)
  have hix : ∀ W, (Instr.index 9 (.string (bstr sampleB)) (.int .i64 0)).run Tryz.prog W = .ok (.int .u8 4) W := fun _ => by kernel_rfl
  have z0 : (((0 : Nat) : Int) == 0) = true := rfl
  have hcells : ∀ W : World, Below (w3.alloc (.cells #[Value.int .i64 sampleS.rev, Value.slice p1 sampleS.jobs.length c1, Value.slice p2 sampleS.nodes.length c2, Value.slice p3 sampleS.leases.length c3] 26)).heap.size (w3.alloc (.cells #[Value.int .i64 sampleS.rev, Value.slice p1 sampleS.jobs.length c1, Value.slice p2 sampleS.nodes.length c2, Value.slice p3 sampleS.leases.length c3] 26)) W →
      W.cell? ⟨w3.heap.size, 0, none⟩ = some (.int .i64 sampleS.rev) ∧ W.cell? ⟨w3.heap.size, 1, none⟩ = some (.slice p1 sampleS.jobs.length c1) ∧ W.cell? ⟨w3.heap.size, 2, none⟩ = some (.slice p2 sampleS.nodes.length c2) ∧ W.cell? ⟨w3.heap.size, 3, none⟩ = some (.slice p3 sampleS.leases.length c3) := fun W hW =>
    ⟨(bs.below hW bs.lt).cell 0, (bs.below hW bs.lt).cell 1, (bs.below hW bs.lt).cell 2, (bs.below hW bs.lt).cell 3⟩
  have HX := Lib.hid hcells
  have HM := Lib.hid hm4
  clear hcells hm4 hm hb3 HD
  go_wp2_with fail
  generalize w3.alloc _ = w4 at *
  have hb40 : Below w4.heap.size w4 w4 := Below.refl _ _
  go_region_held3 (fun w' => w'.cell? ⟨w3.heap.size, 0, none⟩ = some (.int .i64 sampleS.rev) ∧ w'.cell? ⟨w3.heap.size, 1, none⟩ = some (.slice p1 sampleS.jobs.length c1) ∧ w'.cell? ⟨w3.heap.size, 2, none⟩ = some (.slice p2 sampleS.nodes.length c2) ∧ w'.cell? ⟨w3.heap.size, 3, none⟩ = some (.slice p3 sampleS.leases.length c3))
    (first
      | exact HX.out _ hb40
      | exact HX.out _ hb40.drew
      | exact HX.out _ hb5
      | exact HX.out _ hb6
      | go_keep)
    (first
      | (go_at_call 11; refine (sample_any _).mono ?_; rintro e w5 ⟨qj, qn, ql, rfl, x1, x2, x3, hb5, _⟩; have hb5 : Below w4.heap.size w4 w5 := hb40.drew.trans hb5)
      | (go_at_call 10; refine (same_any sampleS sampleS p1 p2 p3 (some ⟨qj, 0, none⟩) (some ⟨qn, 0, none⟩) (some ⟨ql, 0, none⟩) c1 c2 c3 2 1 1 _ ((HM.out.below hb5).more hb5.size) ⟨.of_blk (by decide) x1 rfl, .of_blk (by decide) x2 rfl, .of_blk (by decide) x3 rfl⟩ sampleS_sz sampleS_sz).mono ?_; rintro e w6 ⟨rfl, hb6⟩; have hb6 : Below w4.heap.size w4 w6 := hb5.trans (hb6.mono hb5.size)))
  go_wp2_with fail
  go_ret
  exact ⟨rfl, hB4.trans (hb6.mono hB4.size)⟩
end Go.Proofs.YtdicoepjkngikaaGreatDoor
