/-
 Contracts of package json: Print; the closed fact of the laws.
-/
import Derived.Test.YtoepchgoacdodaaDoorJsonC
import Derived.Test.YtoepchgoacdodaaDoorCheckW
set_option linter.unusedVariables false
set_option linter.unusedSimpArgs false
namespace Go.Proofs.YtoepchgoacdodaaDoor
open Go.RowKit Go.Joins
theorem state_size4 : (Tryd.prog.info? 32).map (·.size) = some 4 := by kernel_rfl
def printE (s : St) : List UInt8 := if checkE s = 0 then printL s else []
set_option maxHeartbeats 8000000 in
set_option maxRecDepth 100000 in
theorem Print_any (s : St) (p1 p2 p3 : Option Addr) (c1 c2 c3 : Nat) (w : World) (hm : StM w w.heap.size p1 p2 p3 s) (hz : StSz s) (hP : LibP w.heap.size w) :
    Calls Tryd.prog 7 #[.agg #[.int .i64 s.rev, .slice p1 s.jobs.length c1, .slice p2 s.nodes.length c2, .slice p3 s.leases.length c3]] w fun e w' => e = .returned (.tuple #[.string (bstr (printE s)), .int .i64 (checkE s : Int)]) ∧ Below w.heap.size w w' := by
  have hb0 : Below w.heap.size w (w.alloc (.cells #[.int .i64 s.rev, .slice p1 s.jobs.length c1, .slice p2 s.nodes.length c2, .slice p3 s.leases.length c3] 32)) := (Below.refl _ _).alloc (Nat.le_refl _) _
  have bx0 := Blk.new w 32 #[.int .i64 s.rev, .slice p1 s.jobs.length c1, .slice p2 s.nodes.length c2, .slice p3 s.leases.length c3]
  have HC := Lib.hid (fun (W : World) (hW : Below w.heap.size w W) => stCheck_any s p1 p2 p3 c1 c2 c3 W ((hm.below hW).more hW.size) hz (hP.tabs W hW))
  have HP := Lib.hid (fun (F : Fine s) (W : World) (hW : Below w.heap.size w W) => printed_any s p1 p2 p3 c1 c2 c3 W ((hm.below hW).more hW.size) F ((hP.below hW).more hW.size))
  have hpe : printE s = if checkE s = 0 then printL s else [] := rfl
  have HPE := Lib.hid hpe
  have HF := Lib.hid (fine_iff s)
  clear hm hz hP hpe
  generalize checkE s = k at *
  go_enter Tryd.func7, Tryd.ntmps7
  go_wp2_with fail
  generalize w.alloc _ = W at *
  go_wp2_with (refine wpList_load_blk rfl _ _ rfl w.heap.size rfl _ _ bx0 _ Tryd.underlying32 rfl state_size4 ?_)
  refine (HC.out W hb0).mono ?_
  rintro e w1 ⟨rfl, hb1⟩
  have hB1 := hb0.trans (hb1.mono hb0.size)
  have bx1 := bx0.below hb1 bx0.lt
  by_cases h0 : k = 0
  · have F := Lib.hid (HF.out.1 h0)
    have hk1 : ((k : Int) != 0) = false := by rw [h0]; rfl
    have hpe := HPE.out
    rw [if_pos h0] at hpe
    have H0 := Lib.hid h0
    clear h0 HF
    go_wp2_with (refine wpList_load_blk rfl _ _ rfl w.heap.size rfl _ _ bx1 _ Tryd.underlying32 rfl state_size4 ?_)
    refine (HP.out F.out w1 hB1).mono ?_
    rintro e w2 ⟨rfl, hb2⟩
    go_wp2_with fail
    go_ret2
    exact ⟨by rw [hpe, H0.out]; rfl, hB1.trans (hb2.mono hB1.size)⟩
  · have hk1 : ((k : Int) != 0) = true := by rw [bne_iff_ne]; omega
    have hpe := HPE.out
    rw [if_neg h0] at hpe
    clear HF
    go_wp2_with fail
    go_ret2
    exact ⟨by rw [hpe]; rfl, hB1⟩
def seven : St := ⟨7, [], [], []⟩
theorem seven_check : checkE seven = 0 := by decide +kernel
theorem seven_print : printL seven = [123, 34, 114, 101, 118, 34, 58, 55, 44, 34, 106, 111, 98, 115, 34, 58, 91, 93, 44, 34, 110, 111, 100, 101, 115, 34, 58, 91, 93, 44, 34, 108, 101, 97, 115, 101, 115, 34, 58, 91, 93, 125] := by
  have h : Lib.itoa 7 = [55] := by unfold Lib.itoa; rw [if_neg (by decide)]; exact Lib.decDigits_one (i := 7) (by decide)
  unfold printL seven
  simp only [h]
  decide
theorem seven_M (w : World) (B : Nat) : StM w B none none none seven := ⟨Elts.nil_, Elts.nil_, Elts.nil_⟩
theorem seven_Z : StSz seven := ⟨by simp [seven], by simp [seven], by simp [seven], by decide, by decide, by decide⟩
set_option maxHeartbeats 8000000 in
set_option maxRecDepth 100000 in
theorem printedF_any (w : World) (hP : LibP w.heap.size w) : Calls Tryd.prog 5 #[] w fun e w' => e = .returned (.bool true) ∧ Below w.heap.size w w' := by
  have HP := Lib.hid (Print_any seven none none none 0 0 0 w (seven_M _ _) seven_Z hP)
  have h1 : printE seven = [123, 34, 114, 101, 118, 34, 58, 55, 44, 34, 106, 111, 98, 115, 34, 58, 91, 93, 44, 34, 110, 111, 100, 101, 115, 34, 58, 91, 93, 44, 34, 108, 101, 97, 115, 101, 115, 34, 58, 91, 93, 125] := by unfold printE; rw [if_pos seven_check]; exact seven_print
  rw [h1, seven_check] at HP
  go_enter Tryd.func5, Tryd.ntmps5
  go_wp2_with fail
  refine HP.out.mono ?_
  rintro e w1 ⟨rfl, hb1⟩
  have heq : ((bstr [123, 34, 114, 101, 118, 34, 58, 55, 44, 34, 106, 111, 98, 115, 34, 58, 91, 93, 44, 34, 110, 111, 100, 101, 115, 34, 58, 91, 93, 44, 34, 108, 101, 97, 115, 101, 115, 34, 58, 91, 93, 125]).toList == ([123, 34, 114, 101, 118, 34, 58, 55, 44, 34, 106, 111, 98, 115, 34, 58, 91, 93, 44, 34, 110, 111, 100, 101, 115, 34, 58, 91, 93, 44, 34, 108, 101, 97, 115, 101, 115, 34, 58, 91, 93, 125] : List UInt8)) = true := by decide +kernel
  go_wp2_with fail
  go_ret
  exact ⟨rfl, hb1⟩
end Go.Proofs.YtoepchgoacdodaaDoor
