/-
  The law DeltaWire of package brackenkeep: for every input it answers true.
-/
import Derived.Test.YtnmokjgnbcfabaaDoorRows
import Derived.Test.YtnmokjgnbcfabaaDoorPkBase
import Derived.Test.YtnmokjgnbcfabaaDoorPkDelOpen
import Derived.Test.YtnmokjgnbcfabaaDoorPkPutD
import Derived.Test.YtnmokjgnbcfabaaDoorPkTakeD
import Derived.Test.YtnmokjgnbcfabaaDoorPkDelB
import Derived.Test.YtnmokjgnbcfabaaDoorPkHeld
import Derived.IntWalk
set_option linter.unusedVariables false
set_option linter.unusedSimpArgs false
namespace Go.Proofs.YtnmokjgnbcfabaaDoor.deltaWire
open Go.ChangeShapes Go.WideShapes Go.ChangeAt Go.RowKit Go.Joins
open Go.ChangeMaps (open_string)
theorem bnil_empty : (bstr []).toList.isEmpty = true := by rw [bstr_toList]; rfl
theorem decDR_dok (l : List UInt8) : DelOk (decDR l).1 := by
  by_cases h : (decDR l).2 = 0
  · have h1 := decDR_ok h
    have h2 := (encDR_ok (d := (decDR l).1) (by rw [h1])).2.1
    have := okD_ok (deltaE_okD h2) (decDR l).1.upto
    exact this
  · rw [decDR_bad h]
    exact ⟨⟨by decide, by decide, by decide, by decide, by decide, by decide⟩, by simp [noD], by simp [noD], by simp [noD], by simp [noD], by simp [noD], by simp [noD]⟩
theorem noD_sz : DelSz noD := ⟨by decide, by decide, by decide, by decide, by decide, by decide⟩
set_option maxHeartbeats 8000000 in
set_option maxRecDepth 100000 in
theorem walk (d : DeltaD) (p1 p2 p3 p4 p5 p6 : Option Addr) (c1 c2 c3 c4 c5 c6 : Nat) (w : World) (hm : DelM w w.heap.size p1 p2 p3 p4 p5 p6 d) (hk : DelOk d) (b : ByteArray) (hbs : b.size ≤ 140737488351232) (hT : Tabs w) :
    Calls Tryd.prog 8 #[.agg #[.int .i64 d.frm, .int .i64 d.upto, .slice p1 d.jobs.length c1, .slice p2 d.nodes.length c2, .slice p3 d.leases.length c3, .slice p4 d.gj.length c4, .slice p5 d.gn.length c5, .slice p6 d.gl.length c6], .string b] w fun e w' => e = .returned (.bool true) ∧ Below w.heap.size w w' := by
  have hzd := zero_delta_lit
  have hb0 : Below w.heap.size w (w.alloc (.cells #[Value.int .i64 d.frm, Value.int .i64 d.upto, Value.slice p1 d.jobs.length c1, Value.slice p2 d.nodes.length c2, Value.slice p3 d.leases.length c3, Value.slice p4 d.gj.length c4, Value.slice p5 d.gn.length c5, Value.slice p6 d.gl.length c6] 51)) := (Below.refl _ _).alloc (Nat.le_refl _) _
  have bx0 := Blk.new w 51 #[Value.int .i64 d.frm, Value.int .i64 d.upto, Value.slice p1 d.jobs.length c1, Value.slice p2 d.nodes.length c2, Value.slice p3 d.leases.length c3, Value.slice p4 d.gj.length c4, Value.slice p5 d.gn.length c5, Value.slice p6 d.gl.length c6]
  have HE := Lib.hid (fun (W : World) (hW : Below w.heap.size w W) => encDelta_any d p1 p2 p3 p4 p5 p6 c1 c2 c3 c4 c5 c6 W ((hm.below hW).more hW.size) hk (hT.below hW))
  have HM := Lib.hid hm
  have HZ := Lib.hid hk.sz
  have HT := Lib.hid hT
  clear hT hm hk
  have z0 : (((0 : Nat) : Int) != 0) = false := rfl
  have z1 : (((0 : Nat) : Int) == 0) = true := rfl
  by_cases hE : (encDR d).2 = 0
  · obtain ⟨h1, h2, hl⟩ := encDR_ok hE
    have hd := decDR_enc h2 hl
    have he := HE.out
    unfold EncPost at he
    rw [h1] at he
    have HE2 := Lib.hid he
    have HD := Lib.hid hd
    have hl2 : (encD d).length ≤ 4611686018427387904 := by omega
    generalize encD d = out at *
    clear h1 h2 hE HE he hd hl
    go_enter Tryd.func8, Tryd.ntmps8
    go_wp2_with fail
    generalize w.alloc _ = W0 at *
    refine (differed_any W0 (HT.out.below hb0)).mono ?_
    rintro e w1 ⟨rfl, hb1⟩
    have hB1 := hb0.trans (hb1.mono hb0.size)
    have bx1 := bx0.below hb1 bx0.lt
    clear hb1 hb0 bx0
    go_wp2_with (first | (refine wpList_load_blk_w (by rfl) _ _ rfl w.heap.size rfl _ #[Value.int .i64 d.frm, Value.int .i64 d.upto, Value.slice p1 d.jobs.length c1, Value.slice p2 d.nodes.length c2, Value.slice p3 d.leases.length c3, Value.slice p4 d.gj.length c4, Value.slice p5 d.gn.length c5, Value.slice p6 d.gl.length c6] bx1 _ Tryd.underlying51 rfl delta_size ?_))
    refine (HE2.out w1 hB1).mono ?_
    rintro e w2 ⟨rfl, hb2⟩
    have hB2 := hB1.trans (hb2.mono hB1.size)
    have bx2 := bx1.below hb2 bx1.lt
    clear hb2 hB1 bx1 HE2
    go_wp2_with fail
    refine (decDelta_any (bstr out) w2 (by rw [bstr_size]; omega) (HT.out.below hB2)).mono ?_
    rintro e w3 ⟨x, er, r1, r2, r3, r4, r5, r6, e1, e2, e3, e4, e5, e6, rfl, hmx, hb3, hd⟩
    rw [bstr_list, HD.out] at hd
    injection hd with hd1 hd2
    subst hd1 hd2
    have hB3 := hB2.trans (hb3.mono hB2.size)
    have bx3 := bx2.below hb3 bx2.lt
    have hb4 : Below w3.heap.size w3 (w3.alloc (.cells #[Value.int .i64 d.frm, Value.int .i64 d.upto, Value.slice r1 d.jobs.length e1, Value.slice r2 d.nodes.length e2, Value.slice r3 d.leases.length e3, Value.slice r4 d.gj.length e4, Value.slice r5 d.gn.length e5, Value.slice r6 d.gl.length e6] 51)) := (Below.refl _ _).alloc (Nat.le_refl _) _
    have hB4 := hB3.alloc hB3.size (.cells #[Value.int .i64 d.frm, Value.int .i64 d.upto, Value.slice r1 d.jobs.length e1, Value.slice r2 d.nodes.length e2, Value.slice r3 d.leases.length e3, Value.slice r4 d.gj.length e4, Value.slice r5 d.gn.length e5, Value.slice r6 d.gl.length e6] 51)
    have bx4 := bx3.alloc (.cells #[Value.int .i64 d.frm, Value.int .i64 d.upto, Value.slice r1 d.jobs.length e1, Value.slice r2 d.nodes.length e2, Value.slice r3 d.leases.length e3, Value.slice r4 d.gj.length e4, Value.slice r5 d.gn.length e5, Value.slice r6 d.gl.length e6] 51)
    have bd4 := Blk.new w3 51 #[Value.int .i64 d.frm, Value.int .i64 d.upto, Value.slice r1 d.jobs.length e1, Value.slice r2 d.nodes.length e2, Value.slice r3 d.leases.length e3, Value.slice r4 d.gj.length e4, Value.slice r5 d.gn.length e5, Value.slice r6 d.gl.length e6]
    have hS := deltaEq_any d d r1 r2 r3 r4 r5 r6 p1 p2 p3 p4 p5 p6 e1 e2 e3 e4 e5 e6 c1 c2 c3 c4 c5 c6 (w3.alloc (.cells #[Value.int .i64 d.frm, Value.int .i64 d.upto, Value.slice r1 d.jobs.length e1, Value.slice r2 d.nodes.length e2, Value.slice r3 d.leases.length e3, Value.slice r4 d.gj.length e4, Value.slice r5 d.gn.length e5, Value.slice r6 d.gl.length e6] 51)) ((hmx.below hb4).m) ((HM.out.below hB4).more hB4.size) HZ.out HZ.out
    rw [decide_eq_true rfl] at hS
    have HS := Lib.hid hS
    clear hS hmx hb4 hb3 hB3 hB2 bx2 bx3
    go_wp2_with (first | (refine wpList_store_new rfl _ _ _ rfl rfl _ _ #[Value.int .i64 d.frm, Value.int .i64 d.upto, Value.slice r1 d.jobs.length e1, Value.slice r2 d.nodes.length e2, Value.slice r3 d.leases.length e3, Value.slice r4 d.gj.length e4, Value.slice r5 d.gn.length e5, Value.slice r6 d.gl.length e6] rfl delta_size rfl (one_d8 _ _ _ _ _ _ _ _ _ _ _ _ _ _ _ _ _ _ _ _) ?_) | (refine wpList_load_blk_w (by rfl) _ _ rfl w3.heap.size rfl _ #[Value.int .i64 d.frm, Value.int .i64 d.upto, Value.slice r1 d.jobs.length e1, Value.slice r2 d.nodes.length e2, Value.slice r3 d.leases.length e3, Value.slice r4 d.gj.length e4, Value.slice r5 d.gn.length e5, Value.slice r6 d.gl.length e6] bd4 _ Tryd.underlying51 rfl delta_size ?_) | (refine wpList_load_blk_w (by rfl) _ _ rfl w.heap.size rfl _ #[Value.int .i64 d.frm, Value.int .i64 d.upto, Value.slice p1 d.jobs.length c1, Value.slice p2 d.nodes.length c2, Value.slice p3 d.leases.length c3, Value.slice p4 d.gj.length c4, Value.slice p5 d.gn.length c5, Value.slice p6 d.gl.length c6] bx4 _ Tryd.underlying51 rfl delta_size ?_))
    generalize w3.alloc _ = W4 at *
    refine HS.out.mono ?_
    rintro e wz ⟨rfl, hb5⟩
    have hBz := hB4.trans (hb5.mono hB4.size)
    clear hb5 hB4 bx4 bd4 HS
    go_wp2_with fail
    refine (decDelta_any b wz (Nat.le_trans hbs (by decide)) (HT.out.below hBz)).mono ?_
    rintro e w6 ⟨t, f, t1, t2, t3, t4, t5, t6, g1, g2, g3, g4, g5, g6, rfl, hmt, hb6, hd⟩
    have hB6 := hBz.trans (hb6.mono hBz.size)
    have hB7 := hB6.alloc hB6.size (.cells #[Value.int .i64 t.frm, Value.int .i64 t.upto, Value.slice t1 t.jobs.length g1, Value.slice t2 t.nodes.length g2, Value.slice t3 t.leases.length g3, Value.slice t4 t.gj.length g4, Value.slice t5 t.gn.length g5, Value.slice t6 t.gl.length g6] 51)
    have hb7 : Below w6.heap.size w6 (w6.alloc (.cells #[Value.int .i64 t.frm, Value.int .i64 t.upto, Value.slice t1 t.jobs.length g1, Value.slice t2 t.nodes.length g2, Value.slice t3 t.leases.length g3, Value.slice t4 t.gj.length g4, Value.slice t5 t.gn.length g5, Value.slice t6 t.gl.length g6] 51)) := (Below.refl _ _).alloc (Nat.le_refl _) _
    have bt7 := Blk.new w6 51 #[Value.int .i64 t.frm, Value.int .i64 t.upto, Value.slice t1 t.jobs.length g1, Value.slice t2 t.nodes.length g2, Value.slice t3 t.leases.length g3, Value.slice t4 t.gj.length g4, Value.slice t5 t.gn.length g5, Value.slice t6 t.gl.length g6]
    have htk : DelOk t := by have := decDR_dok b.data.toList; rw [hd] at this; exact this
    have hm7 := (hmt.below hb7).m
    have hE7 := encDelta_any t t1 t2 t3 t4 t5 t6 g1 g2 g3 g4 g5 g6 _ hm7 htk (HT.out.below hB7)
    unfold EncPost at hE7
    have HE7 := Lib.hid hE7
    have HM7 := Lib.hid hm7
    have HD7 := Lib.hid hd
    clear hE7 hm7 htk hd hmt hb7 hb6 hB6
    by_cases hf : f = 0
    · have hf1 : ((f : Int) == 0) = true := by rw [hf]; rfl
      have hf2 : ((f : Int) != 0) = false := by rw [hf]; rfl
      have hA : encDR t = (b.data.toList, 0) := by
        have := decDR_ok (l := b.data.toList) (by rw [HD7.out]; exact hf)
        rwa [HD7.out] at this
      have hE7 := HE7.out
      rw [hA, bstr_self] at hE7
      have HE8 := Lib.hid hE7
      have heq : (b.toList == b.toList) = true := by simp
      clear hE7 HE7 hA hf HD7
      go_wp2_with (first | (refine wpList_store_new rfl _ _ _ rfl rfl _ _ #[Value.int .i64 t.frm, Value.int .i64 t.upto, Value.slice t1 t.jobs.length g1, Value.slice t2 t.nodes.length g2, Value.slice t3 t.leases.length g3, Value.slice t4 t.gj.length g4, Value.slice t5 t.gn.length g5, Value.slice t6 t.gl.length g6] rfl delta_size rfl (one_d8 _ _ _ _ _ _ _ _ _ _ _ _ _ _ _ _ _ _ _ _) ?_) | (refine wpList_load_blk_w (by rfl) _ _ rfl w6.heap.size rfl _ #[Value.int .i64 t.frm, Value.int .i64 t.upto, Value.slice t1 t.jobs.length g1, Value.slice t2 t.nodes.length g2, Value.slice t3 t.leases.length g3, Value.slice t4 t.gj.length g4, Value.slice t5 t.gn.length g5, Value.slice t6 t.gl.length g6] bt7 _ Tryd.underlying51 rfl delta_size ?_))
      generalize w6.alloc _ = W7 at *
      refine HE8.out.mono ?_
      rintro e w8 ⟨rfl, hb8⟩
      have hB8 := hB7.trans (hb8.mono hB7.size)
      go_wp2_with fail
      go_ret
      exact ⟨rfl, hB8⟩
    · have hf1 : ((f : Int) == 0) = false := by rw [beq_eq_false_iff_ne]; omega
      have hf2 : ((f : Int) != 0) = true := by rw [bne_iff_ne]; omega
      have ht : t = noD := by
        have := decDR_bad (l := b.data.toList) (by rw [HD7.out]; exact hf)
        rwa [HD7.out] at this
      have HTN := Lib.hid ht
      clear hf HD7 ht
      go_wp2_with (first | (refine wpList_store_new rfl _ _ _ rfl rfl _ _ #[Value.int .i64 t.frm, Value.int .i64 t.upto, Value.slice t1 t.jobs.length g1, Value.slice t2 t.nodes.length g2, Value.slice t3 t.leases.length g3, Value.slice t4 t.gj.length g4, Value.slice t5 t.gn.length g5, Value.slice t6 t.gl.length g6] rfl delta_size rfl (one_d8 _ _ _ _ _ _ _ _ _ _ _ _ _ _ _ _ _ _ _ _) ?_) | (refine wpList_load_blk_w (by rfl) _ _ rfl w6.heap.size rfl _ #[Value.int .i64 t.frm, Value.int .i64 t.upto, Value.slice t1 t.jobs.length g1, Value.slice t2 t.nodes.length g2, Value.slice t3 t.leases.length g3, Value.slice t4 t.gj.length g4, Value.slice t5 t.gn.length g5, Value.slice t6 t.gl.length g6] bt7 _ Tryd.underlying51 rfl delta_size ?_))
      generalize w6.alloc _ = W7 at *
      refine HE7.out.mono ?_
      rintro e w8 ⟨rfl, hb8⟩
      have hB8 := hB7.trans (hb8.mono hB7.size)
      have bt8 := bt7.below hb8 bt7.lt
      have hS := deltaEq_any t noD t1 t2 t3 t4 t5 t6 none none none none none none g1 g2 g3 g4 g5 g6 0 0 0 0 0 0 w8 ((HM7.out.below hb8).more hb8.size) (DelM.nil w8 _) (by rw [HTN.out]; exact noD_sz) noD_sz
      rw [decide_eq_true HTN.out] at hS
      have HS := Lib.hid (show Calls Tryd.prog 26 #[.agg #[Value.int .i64 t.frm, Value.int .i64 t.upto, Value.slice t1 t.jobs.length g1, Value.slice t2 t.nodes.length g2, Value.slice t3 t.leases.length g3, Value.slice t4 t.gj.length g4, Value.slice t5 t.gn.length g5, Value.slice t6 t.gl.length g6], .agg #[Value.int .i64 0, Value.int .i64 0, Value.slice none 0 0, Value.slice none 0 0, Value.slice none 0 0, Value.slice none 0 0, Value.slice none 0 0, Value.slice none 0 0]] w8 _ from hS)
      generalize encDR t = ez at *
      clear hb8 bt7 HM7 HE7 hS HTN
      go_wp2_with (first | (refine wpList_load_blk_w (by rfl) _ _ rfl w6.heap.size rfl _ #[Value.int .i64 t.frm, Value.int .i64 t.upto, Value.slice t1 t.jobs.length g1, Value.slice t2 t.nodes.length g2, Value.slice t3 t.leases.length g3, Value.slice t4 t.gj.length g4, Value.slice t5 t.gn.length g5, Value.slice t6 t.gl.length g6] bt8 _ Tryd.underlying51 rfl delta_size ?_))
      refine HS.out.mono ?_
      rintro e w9 ⟨rfl, hb9⟩
      have hB9 := hB8.trans (hb9.mono hB8.size)
      go_wp2_with fail
      go_ret
      exact ⟨rfl, hB9⟩
  · have h1 := encDR_bad hE
    have he := HE.out
    unfold EncPost at he
    have hee : encDR d = ([], (encDR d).2) := by rw [← h1]
    rw [hee] at he
    have HE2 := Lib.hid he
    generalize (encDR d).2 = ee at *
    have hne : ((ee : Int) == 0) = false := by rw [beq_eq_false_iff_ne]; omega
    have hbn := bnil_empty
    clear h1 hE HE he hee
    go_enter Tryd.func8, Tryd.ntmps8
    go_wp2_with fail
    generalize w.alloc _ = W0 at *
    refine (differed_any W0 (HT.out.below hb0)).mono ?_
    rintro e w1 ⟨rfl, hb1⟩
    have hB1 := hb0.trans (hb1.mono hb0.size)
    have bx1 := bx0.below hb1 bx0.lt
    clear hb1 hb0 bx0
    go_wp2_with (first | (refine wpList_load_blk_w (by rfl) _ _ rfl w.heap.size rfl _ #[Value.int .i64 d.frm, Value.int .i64 d.upto, Value.slice p1 d.jobs.length c1, Value.slice p2 d.nodes.length c2, Value.slice p3 d.leases.length c3, Value.slice p4 d.gj.length c4, Value.slice p5 d.gn.length c5, Value.slice p6 d.gl.length c6] bx1 _ Tryd.underlying51 rfl delta_size ?_))
    refine (HE2.out w1 hB1).mono ?_
    rintro e w2 ⟨rfl, hb2⟩
    have hB2 := hB1.trans (hb2.mono hB1.size)
    have bx2 := bx1.below hb2 bx1.lt
    clear hb2 hB1 bx1 HE2
    generalize bstr [] = bn at *
    go_wp2_with fail
    obtain ⟨wz, rfl⟩ : ∃ wz : World, wz = w2 := ⟨_, rfl⟩
    have hBz := hB2
    refine (decDelta_any b wz (Nat.le_trans hbs (by decide)) (HT.out.below hBz)).mono ?_
    rintro e w6 ⟨t, f, t1, t2, t3, t4, t5, t6, g1, g2, g3, g4, g5, g6, rfl, hmt, hb6, hd⟩
    have hB6 := hBz.trans (hb6.mono hBz.size)
    have hB7 := hB6.alloc hB6.size (.cells #[Value.int .i64 t.frm, Value.int .i64 t.upto, Value.slice t1 t.jobs.length g1, Value.slice t2 t.nodes.length g2, Value.slice t3 t.leases.length g3, Value.slice t4 t.gj.length g4, Value.slice t5 t.gn.length g5, Value.slice t6 t.gl.length g6] 51)
    have hb7 : Below w6.heap.size w6 (w6.alloc (.cells #[Value.int .i64 t.frm, Value.int .i64 t.upto, Value.slice t1 t.jobs.length g1, Value.slice t2 t.nodes.length g2, Value.slice t3 t.leases.length g3, Value.slice t4 t.gj.length g4, Value.slice t5 t.gn.length g5, Value.slice t6 t.gl.length g6] 51)) := (Below.refl _ _).alloc (Nat.le_refl _) _
    have bt7 := Blk.new w6 51 #[Value.int .i64 t.frm, Value.int .i64 t.upto, Value.slice t1 t.jobs.length g1, Value.slice t2 t.nodes.length g2, Value.slice t3 t.leases.length g3, Value.slice t4 t.gj.length g4, Value.slice t5 t.gn.length g5, Value.slice t6 t.gl.length g6]
    have htk : DelOk t := by have := decDR_dok b.data.toList; rw [hd] at this; exact this
    have hm7 := (hmt.below hb7).m
    have hE7 := encDelta_any t t1 t2 t3 t4 t5 t6 g1 g2 g3 g4 g5 g6 _ hm7 htk (HT.out.below hB7)
    unfold EncPost at hE7
    have HE7 := Lib.hid hE7
    have HM7 := Lib.hid hm7
    have HD7 := Lib.hid hd
    clear hE7 hm7 htk hd hmt hb7 hb6 hB6
    by_cases hf : f = 0
    · have hf1 : ((f : Int) == 0) = true := by rw [hf]; rfl
      have hf2 : ((f : Int) != 0) = false := by rw [hf]; rfl
      have hA : encDR t = (b.data.toList, 0) := by
        have := decDR_ok (l := b.data.toList) (by rw [HD7.out]; exact hf)
        rwa [HD7.out] at this
      have hE7 := HE7.out
      rw [hA, bstr_self] at hE7
      have HE8 := Lib.hid hE7
      have heq : (b.toList == b.toList) = true := by simp
      clear hE7 HE7 hA hf HD7
      go_wp2_with (first | (refine wpList_store_new rfl _ _ _ rfl rfl _ _ #[Value.int .i64 t.frm, Value.int .i64 t.upto, Value.slice t1 t.jobs.length g1, Value.slice t2 t.nodes.length g2, Value.slice t3 t.leases.length g3, Value.slice t4 t.gj.length g4, Value.slice t5 t.gn.length g5, Value.slice t6 t.gl.length g6] rfl delta_size rfl (one_d8 _ _ _ _ _ _ _ _ _ _ _ _ _ _ _ _ _ _ _ _) ?_) | (refine wpList_load_blk_w (by rfl) _ _ rfl w6.heap.size rfl _ #[Value.int .i64 t.frm, Value.int .i64 t.upto, Value.slice t1 t.jobs.length g1, Value.slice t2 t.nodes.length g2, Value.slice t3 t.leases.length g3, Value.slice t4 t.gj.length g4, Value.slice t5 t.gn.length g5, Value.slice t6 t.gl.length g6] bt7 _ Tryd.underlying51 rfl delta_size ?_))
      generalize w6.alloc _ = W7 at *
      refine HE8.out.mono ?_
      rintro e w8 ⟨rfl, hb8⟩
      have hB8 := hB7.trans (hb8.mono hB7.size)
      go_wp2_with fail
      go_ret
      exact ⟨rfl, hB8⟩
    · have hf1 : ((f : Int) == 0) = false := by rw [beq_eq_false_iff_ne]; omega
      have hf2 : ((f : Int) != 0) = true := by rw [bne_iff_ne]; omega
      have ht : t = noD := by
        have := decDR_bad (l := b.data.toList) (by rw [HD7.out]; exact hf)
        rwa [HD7.out] at this
      have HTN := Lib.hid ht
      clear hf HD7 ht
      go_wp2_with (first | (refine wpList_store_new rfl _ _ _ rfl rfl _ _ #[Value.int .i64 t.frm, Value.int .i64 t.upto, Value.slice t1 t.jobs.length g1, Value.slice t2 t.nodes.length g2, Value.slice t3 t.leases.length g3, Value.slice t4 t.gj.length g4, Value.slice t5 t.gn.length g5, Value.slice t6 t.gl.length g6] rfl delta_size rfl (one_d8 _ _ _ _ _ _ _ _ _ _ _ _ _ _ _ _ _ _ _ _) ?_) | (refine wpList_load_blk_w (by rfl) _ _ rfl w6.heap.size rfl _ #[Value.int .i64 t.frm, Value.int .i64 t.upto, Value.slice t1 t.jobs.length g1, Value.slice t2 t.nodes.length g2, Value.slice t3 t.leases.length g3, Value.slice t4 t.gj.length g4, Value.slice t5 t.gn.length g5, Value.slice t6 t.gl.length g6] bt7 _ Tryd.underlying51 rfl delta_size ?_))
      generalize w6.alloc _ = W7 at *
      refine HE7.out.mono ?_
      rintro e w8 ⟨rfl, hb8⟩
      have hB8 := hB7.trans (hb8.mono hB7.size)
      have bt8 := bt7.below hb8 bt7.lt
      have hS := deltaEq_any t noD t1 t2 t3 t4 t5 t6 none none none none none none g1 g2 g3 g4 g5 g6 0 0 0 0 0 0 w8 ((HM7.out.below hb8).more hb8.size) (DelM.nil w8 _) (by rw [HTN.out]; exact noD_sz) noD_sz
      rw [decide_eq_true HTN.out] at hS
      have HS := Lib.hid (show Calls Tryd.prog 26 #[.agg #[Value.int .i64 t.frm, Value.int .i64 t.upto, Value.slice t1 t.jobs.length g1, Value.slice t2 t.nodes.length g2, Value.slice t3 t.leases.length g3, Value.slice t4 t.gj.length g4, Value.slice t5 t.gn.length g5, Value.slice t6 t.gl.length g6], .agg #[Value.int .i64 0, Value.int .i64 0, Value.slice none 0 0, Value.slice none 0 0, Value.slice none 0 0, Value.slice none 0 0, Value.slice none 0 0, Value.slice none 0 0]] w8 _ from hS)
      generalize encDR t = ez at *
      clear hb8 bt7 HM7 HE7 hS HTN
      go_wp2_with (first | (refine wpList_load_blk_w (by rfl) _ _ rfl w6.heap.size rfl _ #[Value.int .i64 t.frm, Value.int .i64 t.upto, Value.slice t1 t.jobs.length g1, Value.slice t2 t.nodes.length g2, Value.slice t3 t.leases.length g3, Value.slice t4 t.gj.length g4, Value.slice t5 t.gn.length g5, Value.slice t6 t.gl.length g6] bt8 _ Tryd.underlying51 rfl delta_size ?_))
      refine HS.out.mono ?_
      rintro e w9 ⟨rfl, hb9⟩
      have hB9 := hB8.trans (hb9.mono hB8.size)
      go_wp2_with fail
      go_ret
      exact ⟨rfl, hB9⟩

theorem own : ownKnob Tryd.prog.godebug = none := by kernel_rfl
theorem laid : laidOutB Tryd.prog = true := by kernel_rfl
set_option maxRecDepth 100000 in
theorem contract (H : Type) (enc : TypeId × Value → H) (W : World) (base : Nat) (args : Array Value) (ds gs : List (DataW H)) (before : List MemPlace)
    (hval0 : ∀ (j : Nat) t v, Tryd.f8.params[j]? = some t → args[j]? = some v → Value.okWide Tryd.prog W .any base t v)
    (hW : DataW.Whole enc Tryd.prog Tryd.f8.params.toList Rows.deltaWireSpec.vars false W args.toList ds gs before)
    (hsz0 : (DataW.weightsEach Tryd.prog (Tryd.f8.params.toList ++ Rows.deltaWireSpec.plain.varTypes Tryd.prog) (ds ++ gs)).all (· ≤ reachBytes) = true)
    (hT : Tabs W) :
    Calls Tryd.prog 8 args W fun e W' => ∃ v, e = .returned v ∧ Rows.deltaWireSpec.post enc Tryd.prog Tryd.f8 false true false false W args v W' := by
  have hval : ∀ (j : Nat) t v, Tryd.f8.params[j]? = some t → args[j]? = some v → Value.okWide Tryd.prog W .any base t v := hval0
  have hsz : (DataW.weightsEach Tryd.prog (Tryd.f8.params.toList ++ Rows.deltaWireSpec.plain.varTypes Tryd.prog) (ds ++ gs)).all (· ≤ reachBytes) = true := hsz0
  have hlt : ∀ x ∈ before, x.block < W.heap.size := fun x hx => hW.lt x hx
  have hW' := hW
  obtain ⟨p, q, hA0, hV, rfl, hfz, hnd⟩ := hW
  have hA : DataW.TrodAll enc Tryd.prog W 0 (fun _ => true) true Tryd.f8.params.toList args.toList ds p := hA0
  rw [Tryd.params8] at hA hval hsz
  obtain ⟨v0, vs0, d0, ds0, p0, q0, hargs, rfl, rfl, h0, r0⟩ := trodAll_cons hA
  obtain ⟨v1, vs1, d1, ds1, p1, q1, rfl, rfl, rfl, h1, r1⟩ := trodAll_cons r0
  obtain ⟨rfl, rfl, rfl⟩ := trodAll_nil r1
  obtain rfl : args = #[v0, v1] := by cases args; simp_all
  obtain ⟨rfl, rfl⟩ := trodVars_none hV
  obtain ⟨x0, pd0a, pd0b, pd0c, pd0d, pd0e, pd0f, cd0a, cd0b, cd0c, cd0d, cd0e, cd0f, rfl, hm0, hk0⟩ := open_delta (hval 0 51 v0 rfl rfl) h0 hsz (j := 0) rfl rfl
  obtain ⟨a1, rfl, rfl, rfl, w1⟩ := open_string Tryd.underlying9 (hval 1 9 v1 rfl rfl) h1
  have b1 : a1.size ≤ 140737488351232 := by have := sized_string hsz (j := 1) (t := 9) rfl rfl; simpa [reachBytes] using this
  refine (walk x0 pd0a pd0b pd0c pd0d pd0e pd0f cd0a cd0b cd0c cd0d cd0e cd0f W hm0 hk0 a1 b1 hT).mono fun e W' ⟨he, hb⟩ => ?_
  subst he
  exact ⟨_, rfl, law_post laid (by kernel_rfl) Tryd.underlying4 rfl rfl hW' rfl rfl rfl rfl hb⟩

theorem reads (os : Os) {H : Type} (enc : TypeId × Value → H) : ∃ places, DataW.whole enc Tryd.prog ((laidWorld os).forCall (fun _ _ => 0) ⟨#[], #[.agg #[.int .i64 0, .int .i64 0, .slice none 0 0, .slice none 0 0, .slice none 0 0, .slice none 0 0, .slice none 0 0, .slice none 0 0], .string ByteArray.empty], []⟩).memory Tryd.f8.params.toList Rows.deltaWireSpec.vars false (#[.agg #[.int .i64 0, .int .i64 0, .slice none 0 0, .slice none 0 0, .slice none 0 0, .slice none 0 0, .slice none 0 0, .slice none 0 0], .string ByteArray.empty] : Array Value).toList 8 = some ([.agg [.lit (.int .i64 0), .lit (.int .i64 0), .nil, .nil, .nil, .nil, .nil, .nil], .lit (.string [])], [], places) :=
  ⟨[], by kernel_rfl⟩
set_option maxRecDepth 100000 in
theorem lifted (os : Os) (started : os.Started) (H : Type) (enc : TypeId × Value → H) (F : Stop.Interp) :
    ReturnsInHanded {} Tryd.checked os 8 .any ((OpenSpec.ofChange Rows.deltaWireSpec).preRow enc Tryd.prog Tryd.f8 Rows.deltaWireRow.domain false Rows.deltaWireRow.laid) (((OpenSpec.ofChange Rows.deltaWireSpec).at F).post enc Tryd.prog Tryd.f8 false true false false) := by
  obtain ⟨places, hx⟩ := reads os enc
  refine returnsInHanded_of_row (C := Tryd.checked) (s := (OpenSpec.ofChange Rows.deltaWireSpec)) own started (by kernel_rfl) Tryd.func8
    (witness_row_atRef (enc := enc) (C := Tryd.checked) false (laidWorld os) #[.agg #[.int .i64 0, .int .i64 0, .slice none 0 0, .slice none 0 0, .slice none 0 0, .slice none 0 0, .slice none 0 0, .slice none 0 0], .string ByteArray.empty] rfl (by kernel_rfl) (by kernel_rfl) (by kernel_rfl)
      (OpenSpec.preRow_of_cond 8 hx (by kernel_rfl) (fun k hk => by cases hk) (by kernel_rfl) (laid_met os _))) ?_
  intro W base args ds gs before hval0 hW _ hcond hsz0 hL _ _
  exact contract H enc W base args ds gs before hval0 hW hsz0 (tabs_of_laid hL)

theorem said : Rows.DeltaWireSaid :=
  OpenClaim.holds_of_cond 8 Tryd.f8 rfl rfl rfl rfl rfl rfl rfl ⟨rfl, rfl, rfl, rfl, rfl⟩ rfl rfl rfl rfl rfl (by kernel_rfl) Tryd.func8 (by kernel_rfl)
    (of_decide_eq_true (by kernel_rfl)) (by unfold Func.isWrapper; first | (rw [if_pos (by decide +kernel)]; kernel_rfl) | (rw [if_neg (by decide +kernel)]; exact ⟨rfl, rfl⟩))
    (fun os started H enc _ F => by rw [OpenClaim.pre_eq_preRow]; exact lifted os started H enc F)

/-- No parameter wants a stand-in; the program's own looks are off. -/
theorem plain (f : FuncId) (fn : Func) (hf : Tryd.pinned.checked.prog.funcNamed "bracken/brackenkeep.DeltaWire" = some f) (hfn : Tryd.pinned.checked.prog.funcs[f]? = some fn) :
    false = Tryd.pinned.checked.prog.looks [] ∧ ∀ (j : Nat) t, fn.params[j]? = some t → Tryd.pinned.checked.prog.wantsStandIn t = false := by
  obtain rfl : f = 8 := Option.some.inj ((show Tryd.prog.funcNamed "bracken/brackenkeep.DeltaWire" = some 8 by kernel_rfl).symm.trans hf) |>.symm
  obtain rfl : fn = Tryd.f8 := (Option.some.inj (Tryd.func8.symm.trans hfn)).symm
  refine ⟨by kernel_rfl, fun j t ht => ?_⟩
  rw [Tryd.params8] at ht
  have hm := Array.mem_of_getElem? ht
  have hall : (#[51, 9] : Array TypeId).all (fun t => !Tryd.prog.wantsStandIn t) = true := by kernel_rfl
  have := Array.all_eq_true_iff_forall_mem.1 hall t (by simpa using hm)
  show Tryd.prog.wantsStandIn t = false
  simpa using this

/-- The statement. -/
theorem proved : Rows.DeltaWireCardSaid :=
  Claim7.holds_tied_plain_at .later [] _ _ _ _ said (fun _ h => by cases h) (by kernel_rfl) (fun _ h => by cases h) deltaWire_row_tie rfl ⟨rfl, rfl⟩ (by kernel_rfl) rfl plain (by kernel_rfl)
#print axioms proved
end Go.Proofs.YtnmokjgnbcfabaaDoor.deltaWire
