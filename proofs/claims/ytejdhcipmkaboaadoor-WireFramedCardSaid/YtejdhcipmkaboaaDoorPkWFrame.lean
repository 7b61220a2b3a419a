/-
  Several texts in one: WFrame.
-/
import Derived.Test.YtejdhcipmkaboaaDoorPkEnc
import Derived.Test.YtejdhcipmkaboaaDoorPkFrame
/-
  The contract of wire.Frame.
-/
set_option linter.unusedVariables false
set_option linter.unusedSimpArgs false
namespace Go.Proofs.YtejdhcipmkaboaaDoor
open Go.RowKit
/-- What wire.Frame answers. -/
def sfrR (v : Int) (s : St) : List UInt8 × Nat := if (encR v s).2 ≠ 0 then ([], (encR v s).2) else encF v 1 (encR v s).1
set_option maxHeartbeats 4000000 in
set_option maxRecDepth 100000 in
theorem wframe_any (s : St) (v : Int) (p1 p2 p3 : Option Addr) (c1 c2 c3 : Nat) (w : World) (hm : StM w w.heap.size p1 p2 p3 s) (hz : StSz s) (hT : Tabs w) (hl : (encR v s).1.length ≤ 4611686018427387904) (v1 : -9223372036854775808 ≤ v) (v2 : v ≤ 9223372036854775807) :
    Calls Tryd.prog 19 #[.agg #[.int .i64 s.rev, .slice p1 s.jobs.length c1, .slice p2 s.nodes.length c2, .slice p3 s.leases.length c3], .int .i64 v] w fun e w' => e = .returned (.tuple #[.string (bstr (sfrR v s).1), .int .i64 ((sfrR v s).2 : Int)]) ∧ Below w.heap.size w w' := by
  have hb0 : Below w.heap.size w (w.alloc (.cells #[Value.int .i64 s.rev, Value.slice p1 s.jobs.length c1, Value.slice p2 s.nodes.length c2, Value.slice p3 s.leases.length c3] 26)) := (Below.refl _ _).alloc (Nat.le_refl _) _
  have hzf := zero_frame_lit
  have hE := encode_state s v p1 p2 p3 c1 c2 c3 _ ((hm.below hb0).more hb0.size) hz (hT.below hb0)
  have HE := Lib.hid hE
  clear hE hm hz hT
  by_cases h0 : (encR v s).2 = 0
  · have hR : sfrR v s = encF v 1 (encR v s).1 := by unfold sfrR; rw [if_neg (by rw [h0]; simp)]
    have hF := fun (W : World) => encode_any v 1 (bstr (encR v s).1) W (by rw [bstr_size]; exact hl) v1 v2 (by decide) (by decide)
    have z0 : (((encR v s).2 : Int) != 0) = false := by rw [h0]; rfl
    rw [bstr_list] at hF
    have HR := Lib.hid hR
    have HF := Lib.hid hF
    clear hR hF h0 hl
    generalize encR v s = ee at *
    generalize encF v 1 ee.1 = ff at *
    go_enter Tryd.func19, Tryd.ntmps19
    go_wp2_with fail
    generalize w.alloc _ = W0 at *
    refine HE.out.mono ?_
    rintro e w1 ⟨rfl, hb1⟩
    have hB1 := hb0.trans (hb1.mono hb0.size)
    go_wp2_with fail
    refine (HF.out w1).mono ?_
    rintro e w2 ⟨rfl, hb2⟩
    go_wp2_with fail
    go_ret2
    exact ⟨by rw [HR.out]; rfl, hB1.trans (hb2.mono hB1.size)⟩
  · have hR : sfrR v s = ([], (encR v s).2) := by unfold sfrR; rw [if_pos h0]
    have z0 : (((encR v s).2 : Int) != 0) = true := by rw [bne_iff_ne]; omega
    have HR := Lib.hid hR
    clear hR h0 hl
    generalize encR v s = ee at *
    go_enter Tryd.func19, Tryd.ntmps19
    go_wp2_with fail
    generalize w.alloc _ = W0 at *
    refine HE.out.mono ?_
    rintro e w1 ⟨rfl, hb1⟩
    have hB1 := hb0.trans (hb1.mono hb0.size)
    go_wp2_with fail
    go_ret2
    exact ⟨by rw [HR.out]; rfl, hB1⟩
end Go.Proofs.YtejdhcipmkaboaaDoor
