/-
  Several texts in one: ReqE.
-/
import Derived.Test.YtibiankbmhdljabGreatDoorPgReqB
import Derived.Test.YtibiankbmhdljabGreatDoorPgReqP
set_option linter.all false
set_option maxHeartbeats 16000000
set_option maxRecDepth 100000
namespace Go.Proofs.YtibiankbmhdljabGreatDoor
open Go.Proofs.Tryz
open Go.RowKit
theorem partZ_B {q : ReqD} (k : q.kind = 8 ∨ q.kind = 9) : partB q = [] := by unfold partB; rw [if_neg (by omega), if_neg (by omega), if_neg (by omega), if_neg (by omega), if_neg (by omega)]
theorem xzk (q : ReqD) (hkind : q.kind = 8 ∨ q.kind = 9) (w : World) :
  Calls prog 97 #[.agg (qv q)] w fun e w' => e = .returned (.iface 244 (.agg #[])) ∧ Below w.heap.size w w' := by
 rcases hkind with h | h
 ·exact wvk q h w
 ·exact wvl q h w
theorem rputZ (v : Value) (w : World) : Calls prog 329 #[.agg #[], v] w fun e w' => e = .returned (.tuple #[]) ∧ Below w.heap.size w w' := by
 go_enter func329, ntmps329
 go_wp2_with fail
 go_end0
 exact ⟨rfl, (zri _ _).alloc (zra _) _⟩
theorem xz2 (q : ReqD) (w : World) (HS : ReqSz q) (hT : Tabs w) (hkind : q.kind = 8 ∨ q.kind = 9) (hE : reqE q = 0) :
  Calls prog 54 #[.agg (qv q)] w fun e w' => e = .returned (.tuple #[.string (bstr (encQ q)), .int .i64 0]) ∧ Below w.heap.size w w' := by
 have hb0 : Below w.heap.size w (w.alloc (.cells (qv q) 68)) := (zri _ _).alloc (zra _) _
 have bx0 := Blk.new w 68 (qv q)
 have hCk := fun (W : World) (hW : Below w.heap.size w W) => vks q W HS (hT.below hW) hkind
 rw [hE] at hCk
 have HCk := zrj hCk
 have hk19 := (ujg hE).1
 have l1 := uqj q.kind.toNat (by omega)
 have hQ : encQ q = putN q.kind.toNat ++ [] := by unfold encQ; rw [partZ_B hkind]
 have HQ := zrj hQ
 have HPO := zrj (fun (W : World) => xzk q hkind W)
 have HT := zrj hT
 have HK := zrj hk19
 clear hCk hT hQ hkind hE
 go_enter func54, ntmps54
 go_wp2_with fail
 generalize w.alloc _ = w0 at *
 go_wp2_with (first | (refine uqa rfl _ _ rfl (w.heap.size) rfl _ _ bx0 _ underlying68 rfl uqe ?_))
 refine (HCk.out w0 hb0).mono ?_
 rintro e w2 ⟨rfl, hb2⟩
 have hB2 := hb0.trans (hb2.mono hb0.size)
 have bx2 := bx0.below hb2 bx0.lt
 clear hb2 hb0 bx0
 have bw := Blk.new w2 93 #[.slice none 0 0]
 have hB3 := hB2.alloc hB2.size (.cells #[.slice none 0 0] 93)
 have bx3 := bx2.alloc (.cells #[.slice none 0 0] 93)
 have hW3 : Wr (w2.alloc (.cells #[.slice none 0 0] 93)) w2.heap.size [] := ⟨_, bw, Buf.nil _ _ _⟩
 have n1 : w.heap.size ≠ w2.heap.size := by have := bx2.lt; omega
 have hsz2 := hB2.size
 have x0 : (w2.alloc (.cells #[.slice none 0 0] 93)).cell? ⟨w.heap.size, 0, none⟩ = some (.int .i64 q.kind) := bx3.cell 0
 clear bw bx2 hB2
 go_wp2_with fail
 generalize w2.alloc _ = w3 at *
 refine (uq2 w2.heap.size [] q.kind w3 hW3 (by have := HK.out; omega) (by simp)).mono ?_
 rintro e w4 ⟨rfl, h4, B4, K4⟩
 rw [List.nil_append] at h4
 have bx4 := K4 _ _ _ (by decide) n1 bx3
 have hB4 := hB3.trans (B4.mono hsz2)
 clear hB3 bx3 B4 K4 hW3 x0
 go_wp2_with (first | (refine uqa rfl _ _ rfl (w.heap.size) rfl _ _ bx4 _ underlying68 rfl uqe ?_))
 refine (HPO.out w4).mono ?_
 rintro e w5 ⟨rfl, hb5⟩
 have h5 := h4.below hb5
 have hB5 := hB4.trans (hb5.mono hB4.size)
 have hl4 := h4.lt
 clear hb5 h4 hB4 bx4
 go_wp2_with fail
 refine (rputZ _ w5).mono ?_
 rintro e w6 ⟨rfl, hb6⟩
 have h6 := h5.below hb6
 have hq0 := HQ.out
 rw [List.append_nil] at hq0
 rw [<- hq0] at h6
 have hB6 := hB5.trans (hb6.mono hB5.size)
 clear hB5 hb6 h5 hq0
 obtain ⟨vv, bw7, hv7⟩ := h6
 obtain ⟨pa, ca, rfl⟩ := hv7.form
 have ew : w6.cell? ⟨w2.heap.size, 0, none⟩ = some (.slice pa (encQ q).length ca) := bw7.cell 0
 have hcv := uzj (P := prog) (U := 5) (src := 86) (dst := 9) underlying86 underlying5 underlying9 hv7
 generalize hout : encQ q = out at *
 have HU := zrj hout
 clear hout
 have HB := zrj hB6
 clear hB6 bw7 hv7
 go_wp2_with fail
 go_ret2
 exact ⟨by rw [HU.out]; rfl, HB.out⟩
end Go.Proofs.YtibiankbmhdljabGreatDoor
