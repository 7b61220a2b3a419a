/-
  Several texts in one: SvLaw.
-/
import Derived.Test.YtaioadbenigdpaaGreatDoorPkSvDoC
import Derived.Test.YtaioadbenigdpaaGreatDoorPkDelB
import Derived.Test.YtaioadbenigdpaaGreatDoorPkSame
import Derived.Test.YtaioadbenigdpaaGreatDoorPkReqO
import Derived.Test.YtaioadbenigdpaaGreatDoorPkBase
import Derived.Test.YtaioadbenigdpaaGreatDoorPkDelA
set_option linter.unusedVariables false
set_option linter.unusedSimpArgs false
set_option maxHeartbeats 16000000
set_option maxRecDepth 100000
namespace Go.Proofs.YtaioadbenigdpaaGreatDoor
open Go.RowKit
theorem ReqSz.of {q : ReqD} (h : okQ q) : ReqSz q := ⟨h.2.1.1.1, h.2.1.1.2, h.2.2.1.1.1, h.2.2.1.1.2, h.2.2.2.1.1.1, h.2.2.2.1.1.2, h.2.2.2.2.1⟩
theorem sz0 : ByteArray.empty.size ≤ 9223372036854775807 := by decide
theorem reqSz_tick (n : Int) : ReqSz (qTick n) := ⟨sz0, sz0, sz0, sz0, sz0, sz0, sz0⟩
theorem eqInP (a b c d : Int) (x : Bool) (hx : (decide (a = c) && decide (b = d)) = x) (w : World) : (Op.equalIn 10000 45 (.agg #[.int .i64 a, .int .i64 b]) (.agg #[.int .i64 c, .int .i64 d])).run Tryz.prog w = .ok x w := by
 have hS : Tryz.prog.underlying 45 = some (.struct (Tryz.prog.fieldsOf 45)) := by kernel_rfl
 have hp : Tryz.prog.stoodInHeld 45 = false := by kernel_rfl
 have ue := Tryz.underlying39
 have ui := Tryz.underlying3
 have ze := Tryz.sizeOf39
 have zi := Tryz.sizeOf3
 have ge := Tryz.isAgg39
 have gi := Tryz.isAgg3
 subst hx
 rw [show (10000 : Nat) = 9999 + 1 from rfl, run_equalIn_agg w 9999 45 _ _ hS hp]
 simp only [Program.fieldsOf, Tryz.underlying45]
 go_simp
 by_cases h0 : a = c <;> by_cases h1 : b = d <;> simp [h0, h1]
theorem eqGuardP : Tryz.prog.eqGuardType Tryz.prog.depth 45 = false := by kernel_rfl
theorem two_blks {w : World} {rc dc : Array Value} : Below w.heap.size w ((((w.alloc (.cells #[.int .i64 0, .int .i64 0] 45)).alloc (.cells #[.int .i64 0, .int .i64 0, .slice none 0 0, .slice none 0 0, .slice none 0 0, .slice none 0 0, .slice none 0 0, .slice none 0 0] 48)).setRow w.heap.size rc).setRow (w.heap.size + 1) dc) ∧
  Blk ((((w.alloc (.cells #[.int .i64 0, .int .i64 0] 45)).alloc (.cells #[.int .i64 0, .int .i64 0, .slice none 0 0, .slice none 0 0, .slice none 0 0, .slice none 0 0, .slice none 0 0, .slice none 0 0] 48)).setRow w.heap.size rc).setRow (w.heap.size + 1) dc) w.heap.size 45 rc ∧ Blk ((((w.alloc (.cells #[.int .i64 0, .int .i64 0] 45)).alloc (.cells #[.int .i64 0, .int .i64 0, .slice none 0 0, .slice none 0 0, .slice none 0 0, .slice none 0 0, .slice none 0 0, .slice none 0 0] 48)).setRow w.heap.size rc).setRow (w.heap.size + 1) dc) (w.heap.size + 1) 48 dc := by
 have b1 := (Blk.new w 45 #[.int .i64 0, .int .i64 0]).alloc (.cells #[.int .i64 0, .int .i64 0, .slice none 0 0, .slice none 0 0, .slice none 0 0, .slice none 0 0, .slice none 0 0, .slice none 0 0] 48)
 have b2 := Blk.new (w.alloc (.cells #[.int .i64 0, .int .i64 0] 45)) 48 #[.int .i64 0, .int .i64 0, .slice none 0 0, .slice none 0 0, .slice none 0 0, .slice none 0 0, .slice none 0 0, .slice none 0 0]
 rw [show (w.alloc (.cells #[.int .i64 0, .int .i64 0] 45)).heap.size = w.heap.size + 1 by simp] at b2
 have hb := ((Below.refl w.heap.size w).alloc (Nat.le_refl _) (.cells #[.int .i64 0, .int .i64 0] 45)).alloc (by simp) (.cells #[.int .i64 0, .int .i64 0, .slice none 0 0, .slice none 0 0, .slice none 0 0, .slice none 0 0, .slice none 0 0, .slice none 0 0] 48)
 exact ⟨below_setRow (below_setRow hb (Nat.le_refl _) _) (Nat.le_succ _) _, (b1.setRow rc).far_row (by omega) dc, (b2.far_row (by omega) rc).setRow dc⟩
theorem two_first {w : World} : Blk ((w.alloc (.cells #[.int .i64 0, .int .i64 0] 45)).alloc (.cells #[.int .i64 0, .int .i64 0, .slice none 0 0, .slice none 0 0, .slice none 0 0, .slice none 0 0, .slice none 0 0, .slice none 0 0] 48)) w.heap.size 45 #[.int .i64 0, .int .i64 0] := (Blk.new w _ _).alloc _
theorem two_second {w : World} (rc : Array Value) : Blk (((w.alloc (.cells #[.int .i64 0, .int .i64 0] 45)).alloc (.cells #[.int .i64 0, .int .i64 0, .slice none 0 0, .slice none 0 0, .slice none 0 0, .slice none 0 0, .slice none 0 0, .slice none 0 0] 48)).setRow w.heap.size rc) (w.heap.size + 1) 48 #[.int .i64 0, .int .i64 0, .slice none 0 0, .slice none 0 0, .slice none 0 0, .slice none 0 0, .slice none 0 0, .slice none 0 0] := by
 have b2 := Blk.new (w.alloc (.cells #[.int .i64 0, .int .i64 0] 45)) 48 #[.int .i64 0, .int .i64 0, .slice none 0 0, .slice none 0 0, .slice none 0 0, .slice none 0 0, .slice none 0 0, .slice none 0 0]
 rw [show (w.alloc (.cells #[.int .i64 0, .int .i64 0] 45)).heap.size = w.heap.size + 1 by simp] at b2
 exact b2.far_row (by omega) rc
theorem stCheck_ok (s : St) (p1 p2 p3 : Option Addr) (c1 c2 c3 : Nat) (w : World) (hm : StM w w.heap.size p1 p2 p3 s) (F : Fine s) (hT : Tabs w) :
  Calls Tryz.prog 12 #[.agg #[.int .i64 s.rev, .slice p1 s.jobs.length c1, .slice p2 s.nodes.length c2, .slice p3 s.leases.length c3]] w fun e w' => e = .returned (.int .i64 ((0 : Nat) : Int)) ∧ Below w.heap.size w w' := by
 have h := stCheck_any s p1 p2 p3 c1 c2 c3 w hm F.sz hT
 rw [(fine_iff s).2 F] at h
 exact h
theorem sample_fine : checkE sampleS = 0 := by decide +kernel
theorem tick9 : (doR ⟨sampleS, 0⟩ (qTick 9)).code = 0 ∧ (doR ⟨sampleS, 0⟩ (qTick 9)).srv.st.rev = 5 ∧ (doR ⟨sampleS, 0⟩ (qTick 9)).told.isSome = true ∧ (toldD (doR ⟨sampleS, 0⟩ (qTick 9))).gl = [⟨#[97]⟩] ∧ (doR ⟨sampleS, 0⟩ (qTick 9)).srv.now = 9 := by decide +kernel
theorem served_any (w : World) (hT : Tabs w) : Calls Tryz.prog 5 #[] w fun e w' => e = .returned (.bool true) ∧ Below w.heap.size w w' := by
 have hzr := zero_rep_lit
 have hzd := zero_delta_lit
 have hzq := zero_request_lit
 go_enter Tryz.func5, Tryz.ntmps5
 go_wp2_with fail
 refine (sample_any w).mono ?_
 rintro e w1 ⟨bj, bn, bl, rfl, x1, x2, x3, hb1, hlt⟩
 have hm : StM w1 w1.heap.size (some ⟨bj, 0, none⟩) (some ⟨bn, 0, none⟩) (some ⟨bl, 0, none⟩) sampleS := ⟨.of_blk (by decide) x1 rfl, .of_blk (by decide) x2 rfl, .of_blk (by decide) x3 rfl⟩
 have HN := Lib.hid (svNew_ok sampleS _ _ _ 2 1 1 w1 hm sampleS_sz (hT.below hb1) sample_fine)
 clear hm x1 x2 x3
 go_wp2_with fail
 refine HN.out.mono ?_
 rintro e w2 ⟨g, rfl, hg, hI, hb2⟩
 have hB2 := hb1.trans (hb2.mono hb1.size)
 have HD := Lib.hid (svDo_any (qTick 9) ⟨sampleS, 0⟩ g w2 hI ⟨(fine_iff _).1 sample_fine, Int.le_refl _, (by decide : (0 : Int) ≤ 1099511627776)⟩ (reqSz_tick 9) (hT.below hB2))
 have hgB : w.heap.size ≤ g := Nat.le_trans hb1.size hg
 clear HN hb2 hb1
 go_wp2_with fail
 refine HD.out.mono ?_
 rintro e w3 ⟨x1, x2, x3, x4, x5, x6, y1, y2, y3, y4, y5, y6, rfl, hI3, hg3, hd3⟩
 have hB3 := below_grown hB2 hg3 hgB hB2.size
 have hgS := hg3.size
 obtain ⟨r1, r2, r3, r4, r5⟩ := tick9
 generalize doR ⟨sampleS, 0⟩ (qTick 9) = r at *
 have hgl := hd3.gl
 rw [r4] at hgl
 have hnow : ∀ W, Below w3.heap.size w3 W → Calls Tryz.prog 21 #[.pointer (some ⟨g, 0, none⟩)] W fun e w' => e = .returned (.int .i64 9) ∧ W = w' := fun W hW => r5 ▸ svNow_any g r.srv W (hI3.below hW)
 have HNow := Lib.hid hnow
 have HGL := Lib.hid hgl
 clear hnow hI3 hd3 hI hg3 HD hgl
 rw [r1, r2, r3, r4]
 clear r1 r2 r3 r4 r5
 generalize toldD r = D at *
 have bt1 := two_first (w := w3)
 have bt2 := two_second (w := w3) #[.int .i64 ((0 : Nat) : Int), .int .i64 5]
 have G := two_blks (w := w3) (rc := #[.int .i64 ((0 : Nat) : Int), .int .i64 5]) (dc := #[.int .i64 D.frm, .int .i64 D.upto, .slice x1 D.jobs.length y1, .slice x2 D.nodes.length y2, .slice x3 D.leases.length y3, .slice x4 D.gj.length y4, .slice x5 D.gn.length y5, .slice x6 1 y6])
 go_upto_region 5 with (first
  | (refine wpList_store_blk rfl _ _ _ rfl w3.heap.size rfl _ _ #[.int .i64 ((0 : Nat) : Int), .int .i64 5] bt1 rfl rep_size rfl (one_rep _ _) ?_)
  | (refine wpList_store_blk rfl _ _ _ rfl (w3.heap.size + 1) rfl _ _ #[.int .i64 D.frm, .int .i64 D.upto, .slice x1 D.jobs.length y1, .slice x2 D.nodes.length y2, .slice x3 D.leases.length y3, .slice x4 D.gj.length y4, .slice x5 D.gn.length y5, .slice x6 1 y6] bt2 rfl delta_size rfl (one_d8 _ _ _ _ _ _ _ _ _ _ _ _ _ _ _ _ _ _ _ _) ?_))
 clear bt1 bt2
 obtain ⟨hb4, br, bd⟩ := G
 generalize (((w3.alloc _).alloc _).setRow _ _).setRow _ _ = w4 at *
 have hB4 := hB3.trans (hb4.mono hB3.size)
 have c7 : w4.cell? ⟨w3.heap.size + 1, 7, none⟩ = some (.slice x6 1 y6) := bd.cell 7
 have hsl : Blk (w4.alloc (.cells #[.string ⟨#[97]⟩] 9)) w4.heap.size 9 #[.string ⟨#[97]⟩] := Blk.new _ _ _
 have hb5 : Below w4.heap.size w4 (w4.alloc (.cells #[.string ⟨#[97]⟩] 9)) := (Below.refl _ _).alloc (Nat.le_refl _) _
 have HE := Lib.hid (eqS_any x6 (some ⟨w4.heap.size, 0, none⟩) y6 1 [⟨#[97]⟩] [⟨#[97]⟩] _ (((HGL.out.below hb4).below (hb5.mono hb4.size)).more (Nat.le_trans hb4.size hb5.size)) (.of_blk (by decide) hsl rfl) (by decide) (by decide))
 have hB5 := hB4.trans (hb5.mono hB4.size)
 have hb45 := hb4.trans (hb5.mono hb4.size)
 have z1 : (((0 : Nat) : Int) == 0) = true := rfl
 clear HGL hsl hb5 bd hb4
 go_wp2_with (first
  | (refine wpList_load_blk rfl _ _ rfl w3.heap.size rfl _ _ br _ Tryz.underlying45 rfl rep_size ?_)
  | (refine wpList_eql rfl _ _ _ _ rfl #[.int .i64 ((0 : Nat) : Int), .int .i64 5] #[.int .i64 0, .int .i64 5] true rfl rfl eqGuardP (eqInP _ _ _ _ _ rfl) ?_))
 refine HE.out.mono ?_
 rintro e w6 ⟨rfl, hb6⟩
 have hB6 := hB5.trans (hb6.mono hB5.size)
 have hN6 := HNow.out w6 (hb45.trans (hb6.mono hb45.size))
 clear HE hb6 HNow
 go_wp2_with fail
 refine hN6.mono ?_
 rintro e w7 ⟨rfl, rfl⟩
 go_wp2_with fail
 go_ret
 exact ⟨rfl, hB6⟩
end Go.Proofs.YtaioadbenigdpaaGreatDoor
