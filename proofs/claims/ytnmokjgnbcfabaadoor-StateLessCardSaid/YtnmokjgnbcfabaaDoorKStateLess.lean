/-
  The law StateLess of package brackenkeep: for every input it answers true.
-/
import Derived.Test.YtnmokjgnbcfabaaDoorRows
import Derived.Test.YtnmokjgnbcfabaaDoorPkBase
import Derived.Test.YtnmokjgnbcfabaaDoorPkLess
import Derived.Test.YtnmokjgnbcfabaaDoorPkSums
import Derived.Test.YtnmokjgnbcfabaaDoorPkAt
import Derived.Test.YtnmokjgnbcfabaaDoorPkUsed
import Derived.Test.YtnmokjgnbcfabaaDoorPkStateB
import Derived.Test.YtnmokjgnbcfabaaDoorPkOwnD
import Derived.Test.YtnmokjgnbcfabaaDoorPkHeld
import Derived.Deep.RegionLaw
import Derived.IntWalk
set_option linter.unusedVariables false
set_option linter.unusedSimpArgs false
namespace Go.Proofs.YtnmokjgnbcfabaaDoor.stateLess
open Go.ChangeShapes Go.WideShapes Go.ChangeAt Go.RowKit Go.Joins
open Go.ChangeMaps (open_string)
set_option maxHeartbeats 8000000 in
set_option maxRecDepth 100000 in
theorem walk (s : St) (p1 p2 p3 : Option Addr) (c1 c2 c3 : Nat) (w : World) (hm : StM w w.heap.size p1 p2 p3 s) (hk : StOk s) (n : Int) (n1 : -9223372036854775808 ≤ n) (n2 : n ≤ 9223372036854775807) (hT : Tabs w) :
    Calls Tryd.prog 3 #[.agg #[.int .i64 s.rev, .slice p1 s.jobs.length c1, .slice p2 s.nodes.length c2, .slice p3 s.leases.length c3], .int .i64 n] w fun e w' => e = .returned (.bool true) ∧ Below w.heap.size w w' := by
  have hb0 : Below w.heap.size w (w.alloc (.cells #[Value.int .i64 s.rev, Value.slice p1 s.jobs.length c1, Value.slice p2 s.nodes.length c2, Value.slice p3 s.leases.length c3] 26)) := (Below.refl _ _).alloc (Nat.le_refl _) _
  have bx0 := Blk.new w 26 #[Value.int .i64 s.rev, Value.slice p1 s.jobs.length c1, Value.slice p2 s.nodes.length c2, Value.slice p3 s.leases.length c3]
  have hz := hk.sz
  have HM := Lib.hid hm
  have HZ := Lib.hid hz
  have HT := Lib.hid hT
  have hzs := zero_state_lit
  have HC := Lib.hid (fun (W : World) (hW : Below w.heap.size w W) => stCheck_any s p1 p2 p3 c1 c2 c3 W ((hm.below hW).more hW.size) hz (hT.below hW))
  clear hm hk hz hT
  by_cases hc : checkE s = 0
  · have hF := (fine_iff s).1 hc
    have lj : s.jobs.length ≤ 40 := hF.nj
    have ln : s.nodes.length ≤ 20 := hF.nn
    have ll : s.leases.length ≤ 40 := hF.nl
    have HF := Lib.hid hF
    have hck := HC.out
    rw [hc] at hck
    have HC0 := Lib.hid hck
    clear hF hc hck HC
    rcases Nat.eq_zero_or_pos s.leases.length with hl | hl
    · rcases Nat.eq_zero_or_pos s.jobs.length with hj | hj
      · have hli : ¬ (0 : Int) < (s.leases.length : Int) := by omega
        have HL0 := Lib.hid hl
        clear hl
        have hji : ¬ (0 : Int) < (s.jobs.length : Int) := by omega
        have HJ0 := Lib.hid hj
        clear hj
        clear n1 n2
        go_enter Tryd.func3, Tryd.ntmps3
        go_wp2_with fail
        generalize w.alloc _ = W_1 at *
        refine (stated_any _ (HT.out.below hb0)).mono ?_
        rintro e w_2 ⟨rfl, hb_3⟩
        have b_4 := bx0.below hb_3 bx0.lt
        have c_5 := hb0.trans (hb_3.mono hb0.size)
        clear bx0 hb0 hb_3
        go_wp2_with (first | (refine wpList_load_blk_w (by rfl) _ _ rfl (w.heap.size) rfl _ #[Value.int .i64 s.rev, Value.slice p1 s.jobs.length c1, Value.slice p2 s.nodes.length c2, Value.slice p3 s.leases.length c3] b_4 _ Tryd.underlying26 rfl state_size ?_))
        refine (HC0.out _ c_5).mono ?_
        rintro e w_6 ⟨rfl, hb_7⟩
        have b_8 := b_4.below hb_7 b_4.lt
        have c_9 := c_5.trans (hb_7.mono c_5.size)
        clear b_4 c_5 hb_7
        have e3 : w_6.cell? ⟨w.heap.size, 3, none⟩ = some (.slice p3 s.leases.length c3) := b_8.cell 3
        have e1 : w_6.cell? ⟨w.heap.size, 1, none⟩ = some (.slice p1 s.jobs.length c1) := b_8.cell 1
        go_wp2_with (first | (refine wpList_load_blk_w (by rfl) _ _ rfl (w.heap.size) rfl _ #[Value.int .i64 s.rev, Value.slice p1 s.jobs.length c1, Value.slice p2 s.nodes.length c2, Value.slice p3 s.leases.length c3] b_8 _ Tryd.underlying26 rfl state_size ?_))
        go_ret
        exact ⟨rfl, c_9⟩
      · have hli : ¬ (0 : Int) < (s.leases.length : Int) := by omega
        have HL0 := Lib.hid hl
        clear hl
        have hji : (0 : Int) < (s.jobs.length : Int) := by omega
        have HRJ := Lib.hid (fun (W : World) => rest_any n (s.jobs.length : Int) W (by omega) (by omega))
        have HRJa := Int.emod_nonneg n (show (s.jobs.length : Int) ≠ 0 by omega)
        have HRJb := Int.emod_lt_of_pos n (show (0 : Int) < (s.jobs.length : Int) by omega)
        generalize hmj : n % (s.jobs.length : Int) = mj at *
        obtain ⟨j, rfl⟩ := Int.eq_ofNat_of_zero_le HRJa
        clear hmj HRJa
        have hltj : j < s.jobs.length := by omega
        clear n1 n2
        go_enter Tryd.func3, Tryd.ntmps3
        go_wp2_with fail
        generalize w.alloc _ = W_1 at *
        refine (stated_any _ (HT.out.below hb0)).mono ?_
        rintro e w_2 ⟨rfl, hb_3⟩
        have b_4 := bx0.below hb_3 bx0.lt
        have c_5 := hb0.trans (hb_3.mono hb0.size)
        clear bx0 hb0 hb_3
        go_wp2_with (first | (refine wpList_load_blk_w (by rfl) _ _ rfl (w.heap.size) rfl _ #[Value.int .i64 s.rev, Value.slice p1 s.jobs.length c1, Value.slice p2 s.nodes.length c2, Value.slice p3 s.leases.length c3] b_4 _ Tryd.underlying26 rfl state_size ?_))
        refine (HC0.out _ c_5).mono ?_
        rintro e w_6 ⟨rfl, hb_7⟩
        have b_8 := b_4.below hb_7 b_4.lt
        have c_9 := c_5.trans (hb_7.mono c_5.size)
        clear b_4 c_5 hb_7
        have e3 : w_6.cell? ⟨w.heap.size, 3, none⟩ = some (.slice p3 s.leases.length c3) := b_8.cell 3
        have e1 : w_6.cell? ⟨w.heap.size, 1, none⟩ = some (.slice p1 s.jobs.length c1) := b_8.cell 1
        go_wp2_with (first | (refine wpList_load_blk_w (by rfl) _ _ rfl (w.heap.size) rfl _ #[Value.int .i64 s.rev, Value.slice p1 s.jobs.length c1, Value.slice p2 s.nodes.length c2, Value.slice p3 s.leases.length c3] b_8 _ Tryd.underlying26 rfl state_size ?_))
        refine (HRJ.out _).mono ?_
        rintro e w' ⟨rfl, rfl⟩
        go_wp2_with (first | (refine wpList_load_blk_w (by rfl) _ _ rfl (w.heap.size) rfl _ #[Value.int .i64 s.rev, Value.slice p1 s.jobs.length c1, Value.slice p2 s.nodes.length c2, Value.slice p3 s.leases.length c3] b_8 _ Tryd.underlying26 rfl state_size ?_))
        refine (lessOwn_any w.heap.size s p1 p2 p3 c1 c2 c3 _ b_8 ((HM.out.below c_9).more c_9.size) (by omega) (by omega) (by omega)).mono ?_
        rintro e w_10 ⟨q1, q2, q3, d1, d2, d3, rfl, hO, hb_11⟩
        have hszB := c_9.size
        have b_12 := b_8.below hb_11 b_8.lt
        have c_13 := c_9.trans (hb_11.mono c_9.size)
        clear b_8 c_9 hb_11
        have hgd := b_12.lt
        have hO := hO.below ((Below.refl w_10.heap.size w_10).alloc (Nat.le_refl _) (.cells #[Value.int .i64 s.rev, Value.slice q1 s.jobs.length d1, Value.slice q2 s.nodes.length d2, Value.slice q3 s.leases.length d3] 26))
        have b_14 := b_12.alloc (.cells #[Value.int .i64 s.rev, Value.slice q1 s.jobs.length d1, Value.slice q2 s.nodes.length d2, Value.slice q3 s.leases.length d3] 26)
        have b_15 := Blk.new w_10 26 #[Value.int .i64 s.rev, Value.slice q1 s.jobs.length d1, Value.slice q2 s.nodes.length d2, Value.slice q3 s.leases.length d3]
        have c_16 := c_13.alloc c_13.size (.cells #[Value.int .i64 s.rev, Value.slice q1 s.jobs.length d1, Value.slice q2 s.nodes.length d2, Value.slice q3 s.leases.length d3] 26)
        clear b_12 c_13
        go_upto_region 17 with ((refine wpList_store_new rfl _ _ _ rfl rfl 26 _ #[Value.int .i64 s.rev, Value.slice q1 s.jobs.length d1, Value.slice q2 s.nodes.length d2, Value.slice q3 s.leases.length d3] rfl state_size rfl (one_st4 _ _ _ _ _ _ _ _ _ _) ?_))
        generalize w_10.alloc _ = W_17 at *
        have hOd : StOwn W_17.drew _ q1 q2 q3 d1 d2 d3 s := hO.below ((Below.refl W_17.heap.size W_17).drew)
        clear hO
        obtain ⟨gr, cur, hqe, hbg, hgb, hcs, hcc⟩ := hOd.j.where_ (by rw [List.length_map]; omega)
        subst hqe
        rw [List.length_map] at hcc
        have hcap := hOd.j.2
        have hmx : d1 ≤ maxLen := by
          rcases hcap with ⟨h0, _⟩ | ⟨_, _, _, _, _, _, h1, _⟩
          · have := congrArg List.length h0; rw [List.length_map] at this; simp at this; omega
          · exact h1
        unfold maxLen at hmx
        have hi0 : (0 : Int) ≤ (j : Int) := by omega
        have hi1 : (j : Int) ≤ (d1 : Int) := by omega
        have hi2 : (j : Int) + 1 ≤ (d1 : Int) := by omega
        have hi3 : (j : Int) + 1 ≤ (s.jobs.length : Int) := by omega
        have hi4 : (0 : Int) ≤ (j : Int) + 1 := by omega
        have hw1 : IntKind.i64.wrap ((j : Int) + 1) = (j : Int) + 1 := IntWalk.i64_in _ (by omega)
        have hw2 : ((j : Int) + 1).toNat = j + 1 := by omega
        obtain ⟨ad, hif, hcells⟩ := hOd.j.tailAt j (by rw [List.length_map]; omega)
        rw [← List.map_drop] at hcells
        have hspare := hOd.j.spare (by rw [List.length_map]; omega) j (s.jobs.length - (j + 1)) (by omega) (0 + j * 5) (by omega)
        have hnl : ((s.jobs.drop (j + 1)).map rowJ).flatten.length = (s.jobs.length - (j + 1)) * 5 := by rw [flat_len (size := 5) (fun r hr => by obtain ⟨x, _, rfl⟩ := List.mem_map.1 hr; rfl), List.length_map, List.length_drop]
        have hone := rowsJ_one (s.jobs.drop (j + 1))
        obtain ⟨i0, hif0, hz0, hz1, hz2⟩ := info_parts job_infoC
        have hroom : j + (s.jobs.length - (j + 1)) ≤ d1 := by omega
        have hspare2 : ∀ jj, jj < ((s.jobs.drop (j + 1)).map rowJ).flatten.length → (W_17.drew.cell? ⟨gr, 0 + j * 5 + jj, none⟩).isSome = true ∧ W_17.drew.frozen? ⟨gr, 0 + j * 5 + jj, none⟩ = false := fun jj hjj => hspare jj (by rw [← hnl]; exact hjj)
        have x3 : W_17.drew.cell? ⟨w_10.heap.size, 1, none⟩ = some (.slice (some ⟨gr, 0, none⟩) s.jobs.length d1) := b_15.cell 1
        have b_18 := (hOd.keepJs (by omega) (show Blk W_17.drew _ _ _ from b_14) (by decide) (0 + j * 5) ((s.jobs.drop (j + 1)).map rowJ).flatten).1
        have b_19 := (hOd.keepJs (by omega) (show Blk W_17.drew _ _ _ from b_15) (by decide) (0 + j * 5) ((s.jobs.drop (j + 1)).map rowJ).flatten).1
        have c_20 := below_setCells c_16.drew (Nat.le_refl _) (Nat.le_trans hszB hbg) (0 + j * 5) ((s.jobs.drop (j + 1)).map rowJ).flatten
        have hO2 := hOd.delJ j (by omega) (0 + j * 5) (by omega)
        have y3 : (W_17.drew.setCells gr (0 + j * 5) ((s.jobs.drop (j + 1)).map rowJ).flatten).cell? ⟨w_10.heap.size, 1, none⟩ = some (.slice (some ⟨gr, 0, none⟩) s.jobs.length d1) := b_19.cell 1
        have f3 : (W_17.drew.setCells gr (0 + j * 5) ((s.jobs.drop (j + 1)).map rowJ).flatten).frozen? ⟨w_10.heap.size, 1, none⟩ = false := b_19.frozen 1
        clear hspare hcap hOd hgb b_14 b_15 c_16
        go_region_law (refine step_append_room rfl _ _ 22 rfl 32 i0 5 Tryd.underlying22 hif0 hz1 gr 0 j d1 rfl ad (s.jobs.length - (j + 1)) (d1 - (j + 1)) ((s.jobs.drop (j + 1)).map rowJ).flatten rfl hnl hcells hone hroom hspare2 ?_; generalize (W_17.drew.setCells gr (0 + j * 5) ((s.jobs.drop (j + 1)).map rowJ).flatten) = W_21 at *)
        all_goals
          rw [erase_len s.jobs j (by omega)]
          have b_22 : Blk (W_21.setCell ⟨w_10.heap.size, 1, none⟩ (.slice (some ⟨gr, 0, none⟩) (s.jobs.eraseIdx j).length d1)) (w_10.heap.size) 26 #[Value.int .i64 s.rev, Value.slice (some ⟨gr, 0, none⟩) (s.jobs.eraseIdx j).length d1, Value.slice q2 s.nodes.length d2, Value.slice q3 s.leases.length d3] := b_19.set_ 1 _
          have b_23 := b_18.far (p := ⟨w_10.heap.size, 1, none⟩) (show w.heap.size ≠ w_10.heap.size by omega) (.slice (some ⟨gr, 0, none⟩) (s.jobs.eraseIdx j).length d1)
          have c_24 := c_20.setCell (p := ⟨w_10.heap.size, 1, none⟩) (show w.heap.size ≤ w_10.heap.size by omega) (.slice (some ⟨gr, 0, none⟩) (s.jobs.eraseIdx j).length d1)
          have O_25 := hO2.other (grow_cell W_21 (w_10.heap.size) 1 (.slice (some ⟨gr, 0, none⟩) (s.jobs.eraseIdx j).length d1)) b_19 (by decide) (by decide) (by decide)
          clear hO2 b_19 b_18 c_20 x3 y3 f3 hcells hone hspare2 hroom hif hnl
          generalize W_21.setCell ⟨w_10.heap.size, 1, none⟩ (.slice (some ⟨gr, 0, none⟩) (s.jobs.eraseIdx j).length d1) = W_26 at *
          have hiff := HF.out.lessJ j hltj
          obtain ⟨xj, hxj⟩ : ∃ xj, s.jobs[j]? = some xj := ⟨_, List.getElem?_eq_getElem hltj⟩
          have hxj2 : s.jobs[j] = xj := by have := List.getElem?_eq_getElem hltj; rw [hxj] at this; injection this with this; exact this.symm
          rw [hxj2] at hiff
          have HCK := Lib.hid (fun (W : World) (hW : Abv W_26 W) => stCheck_any (⟨s.rev, s.jobs.eraseIdx j, s.nodes, s.leases⟩ : St) (some ⟨gr, 0, none⟩) q2 q3 d1 d2 d3 W ((O_25.m.below hW).more hW.size) (HZ.out.delJ j) (HT.out.below (c_24.trans (Below.mono hW c_24.size))))
          have HLA := Lib.hid (fun (W : World) (hW : Abv W_26 W) => atL_any p3 c3 s.leases xj.name W ((HM.out.l.below (c_24.trans (Below.mono hW c_24.size))).more (Nat.le_trans c_24.size hW.size)) (by omega))
          obtain ⟨ja, hja, hjb, _, hjat⟩ := ((HM.out.j.below c_24).more c_24.size).at_ (k := j) (r := rowJ xj) (by rw [List.getElem?_map, hxj]; rfl)
          subst hja
          have hjn : ∀ W, Abv W_26 W → W.cell? (ja.add (j * 5)) = some (.string xj.name) := fun W hW => by have := (At.below hjat hW (by rw [block_of_add]; exact hjb)) 0 (.string xj.name) rfl; rwa [show (ja.add (j * 5)).add 0 = ja.add (j * 5) from by unfold Addr.add; simp] at this
          have hcs : ∀ W, Abv W_26 W → W.cell? ⟨w.heap.size, 1, none⟩ = some (.slice (some ja) s.jobs.length c1) ∧ W.cell? ⟨w.heap.size, 3, none⟩ = some (.slice p3 s.leases.length c3) ∧ W.cell? (ja.add (j * 5)) = some (.string xj.name) := fun W hW => ⟨(b_23.below hW b_23.lt).cell 1, (b_23.below hW b_23.lt).cell 3, hjn W hW⟩
          have HQ := Lib.hid hcs
          obtain ⟨ce, hce⟩ : ∃ ce, checkE (⟨s.rev, s.jobs.eraseIdx j, s.nodes, s.leases⟩ : St) = ce := ⟨_, rfl⟩
          obtain ⟨ix, hix⟩ : ∃ ix, ixBy LeaseD.job s.leases xj.name 0 = ix := ⟨_, rfl⟩
          rw [hce, hix] at hiff
          rw [hce] at HCK
          rw [hix] at HLA
          have hbb : ((ce : Int) == 0) = decide (ix < 0) := by rw [Bool.eq_iff_iff, beq_iff_eq, decide_eq_true_iff]; exact ⟨fun h => hiff.1 (by omega), fun h => by have := hiff.2 h; omega⟩
          have hjw : IntKind.i64.wrap (j : Int) = (j : Int) := IntWalk.i64_in _ (by omega)
          have hj1 : (j : Int) < (s.jobs.length : Int) := by omega
          clear hiff hxj hxj2 hjat hjn hcs hce hix O_25
          go_upto_region 18 with (fail)
          refine wp_region_abv (by kernel_rfl) (by kernel_rfl) ?_
          repeat (first
            | (refine wpQuiet_load_g (by rfl) _ _ rfl ⟨w_10.heap.size, 0, none⟩ rfl [Value.int .i64 s.rev, Value.slice (some ⟨gr, 0, none⟩) (s.jobs.eraseIdx j).length d1, Value.slice q2 s.nodes.length d2, Value.slice q3 s.leases.length d3] _ (fun w5 hw5 => At.blk (b_22.below hw5 b_22.lt)) Tryd.underlying26 rfl state_size ?_; simp only [Act.put, List.setIfInBounds_toArray, List.set_cons_zero, List.set_cons_succ])
            | (apply wpQuiet_do; (focus rfl); (focus (intro w5 hw5; obtain ⟨k1, k3, k5⟩ := HQ.out w5 hw5; unfold Oper.quietAt; go_simp; first | rfl | exact ⟨rfl, rfl⟩ | (with_reducible refine (HCK.out w5 hw5).mono ?_; rintro e w8 ⟨rfl, hb8⟩; exact ⟨rfl, Abv.step hw5 hb8⟩) | (with_reducible refine (HLA.out w5 hw5).mono ?_; rintro e w8 ⟨rfl, hb8⟩; exact ⟨rfl, Abv.step hw5 hb8⟩))); simp only [Act.put, List.setIfInBounds_toArray, List.set_cons_zero, List.set_cons_succ]))
          refine wpQuiet_nil ?_
          intro w9 hw9
          have hb9 : Below W_26.heap.size W_26 w9 := hw9
          clear hw9
          have hB9 := c_24.trans (hb9.mono c_24.size)
          generalize decide (ix < 0) = bx at *
          clear hb9 HQ HCK HLA
          go_wp2_with fail
          go_ret
          exact ⟨rfl, hB9⟩
    · rcases Nat.eq_zero_or_pos s.jobs.length with hj | hj
      · have hli : (0 : Int) < (s.leases.length : Int) := by omega
        have HRL := Lib.hid (fun (W : World) => rest_any n (s.leases.length : Int) W (by omega) (by omega))
        have HRLa := Int.emod_nonneg n (show (s.leases.length : Int) ≠ 0 by omega)
        have HRLb := Int.emod_lt_of_pos n (show (0 : Int) < (s.leases.length : Int) by omega)
        generalize hmi : n % (s.leases.length : Int) = mi at *
        obtain ⟨i, rfl⟩ := Int.eq_ofNat_of_zero_le HRLa
        clear hmi HRLa
        have hlti : i < s.leases.length := by omega
        have hji : ¬ (0 : Int) < (s.jobs.length : Int) := by omega
        have HJ0 := Lib.hid hj
        clear hj
        clear n1 n2
        go_enter Tryd.func3, Tryd.ntmps3
        go_wp2_with fail
        generalize w.alloc _ = W_1 at *
        refine (stated_any _ (HT.out.below hb0)).mono ?_
        rintro e w_2 ⟨rfl, hb_3⟩
        have b_4 := bx0.below hb_3 bx0.lt
        have c_5 := hb0.trans (hb_3.mono hb0.size)
        clear bx0 hb0 hb_3
        go_wp2_with (first | (refine wpList_load_blk_w (by rfl) _ _ rfl (w.heap.size) rfl _ #[Value.int .i64 s.rev, Value.slice p1 s.jobs.length c1, Value.slice p2 s.nodes.length c2, Value.slice p3 s.leases.length c3] b_4 _ Tryd.underlying26 rfl state_size ?_))
        refine (HC0.out _ c_5).mono ?_
        rintro e w_6 ⟨rfl, hb_7⟩
        have b_8 := b_4.below hb_7 b_4.lt
        have c_9 := c_5.trans (hb_7.mono c_5.size)
        clear b_4 c_5 hb_7
        have e3 : w_6.cell? ⟨w.heap.size, 3, none⟩ = some (.slice p3 s.leases.length c3) := b_8.cell 3
        go_wp2_with (first | (refine wpList_load_blk_w (by rfl) _ _ rfl (w.heap.size) rfl _ #[Value.int .i64 s.rev, Value.slice p1 s.jobs.length c1, Value.slice p2 s.nodes.length c2, Value.slice p3 s.leases.length c3] b_8 _ Tryd.underlying26 rfl state_size ?_))
        refine (HRL.out _).mono ?_
        rintro e w' ⟨rfl, rfl⟩
        clear e3
        go_wp2_with (first | (refine wpList_load_blk_w (by rfl) _ _ rfl (w.heap.size) rfl _ #[Value.int .i64 s.rev, Value.slice p1 s.jobs.length c1, Value.slice p2 s.nodes.length c2, Value.slice p3 s.leases.length c3] b_8 _ Tryd.underlying26 rfl state_size ?_))
        refine (lessOwn_any w.heap.size s p1 p2 p3 c1 c2 c3 _ b_8 ((HM.out.below c_9).more c_9.size) (by omega) (by omega) (by omega)).mono ?_
        rintro e w_10 ⟨q1, q2, q3, d1, d2, d3, rfl, hO, hb_11⟩
        have hszB := c_9.size
        have b_12 := b_8.below hb_11 b_8.lt
        have c_13 := c_9.trans (hb_11.mono c_9.size)
        clear b_8 c_9 hb_11
        have hgd := b_12.lt
        have hO := hO.below ((Below.refl w_10.heap.size w_10).alloc (Nat.le_refl _) (.cells #[Value.int .i64 s.rev, Value.slice q1 s.jobs.length d1, Value.slice q2 s.nodes.length d2, Value.slice q3 s.leases.length d3] 26))
        have b_14 := b_12.alloc (.cells #[Value.int .i64 s.rev, Value.slice q1 s.jobs.length d1, Value.slice q2 s.nodes.length d2, Value.slice q3 s.leases.length d3] 26)
        have b_15 := Blk.new w_10 26 #[Value.int .i64 s.rev, Value.slice q1 s.jobs.length d1, Value.slice q2 s.nodes.length d2, Value.slice q3 s.leases.length d3]
        have c_16 := c_13.alloc c_13.size (.cells #[Value.int .i64 s.rev, Value.slice q1 s.jobs.length d1, Value.slice q2 s.nodes.length d2, Value.slice q3 s.leases.length d3] 26)
        clear b_12 c_13
        go_upto_region 10 with ((refine wpList_store_new rfl _ _ _ rfl rfl 26 _ #[Value.int .i64 s.rev, Value.slice q1 s.jobs.length d1, Value.slice q2 s.nodes.length d2, Value.slice q3 s.leases.length d3] rfl state_size rfl (one_st4 _ _ _ _ _ _ _ _ _ _) ?_))
        generalize w_10.alloc _ = W_17 at *
        have hOd : StOwn W_17.drew _ q1 q2 q3 d1 d2 d3 s := hO.below ((Below.refl W_17.heap.size W_17).drew)
        clear hO
        obtain ⟨gr, cur, hqe, hbg, hgb, hcs, hcc⟩ := hOd.l.where_ (by rw [List.length_map]; omega)
        subst hqe
        rw [List.length_map] at hcc
        have hcap := hOd.l.2
        have hmx : d3 ≤ maxLen := by
          rcases hcap with ⟨h0, _⟩ | ⟨_, _, _, _, _, _, h1, _⟩
          · have := congrArg List.length h0; rw [List.length_map] at this; simp at this; omega
          · exact h1
        unfold maxLen at hmx
        have hi0 : (0 : Int) ≤ (i : Int) := by omega
        have hi1 : (i : Int) ≤ (d3 : Int) := by omega
        have hi2 : (i : Int) + 1 ≤ (d3 : Int) := by omega
        have hi3 : (i : Int) + 1 ≤ (s.leases.length : Int) := by omega
        have hi4 : (0 : Int) ≤ (i : Int) + 1 := by omega
        have hw1 : IntKind.i64.wrap ((i : Int) + 1) = (i : Int) + 1 := IntWalk.i64_in _ (by omega)
        have hw2 : ((i : Int) + 1).toNat = i + 1 := by omega
        obtain ⟨ad, hif, hcells⟩ := hOd.l.tailAt i (by rw [List.length_map]; omega)
        rw [← List.map_drop] at hcells
        have hspare := hOd.l.spare (by rw [List.length_map]; omega) i (s.leases.length - (i + 1)) (by omega) (0 + i * 3) (by omega)
        have hnl : ((s.leases.drop (i + 1)).map rowL).flatten.length = (s.leases.length - (i + 1)) * 3 := by rw [flat_len (size := 3) (fun r hr => by obtain ⟨x, _, rfl⟩ := List.mem_map.1 hr; rfl), List.length_map, List.length_drop]
        have hone := rowsL_one (s.leases.drop (i + 1))
        obtain ⟨i0, hif0, hz0, hz1, hz2⟩ := info_parts lease_infoC
        have hroom : i + (s.leases.length - (i + 1)) ≤ d3 := by omega
        have hspare2 : ∀ jj, jj < ((s.leases.drop (i + 1)).map rowL).flatten.length → (W_17.drew.cell? ⟨gr, 0 + i * 3 + jj, none⟩).isSome = true ∧ W_17.drew.frozen? ⟨gr, 0 + i * 3 + jj, none⟩ = false := fun jj hjj => hspare jj (by rw [← hnl]; exact hjj)
        have x3 : W_17.drew.cell? ⟨w_10.heap.size, 3, none⟩ = some (.slice (some ⟨gr, 0, none⟩) s.leases.length d3) := b_15.cell 3
        have b_18 := (hOd.keepL (by omega) (show Blk W_17.drew _ _ _ from b_14) (by decide) (0 + i * 3) ((s.leases.drop (i + 1)).map rowL).flatten).1
        have b_19 := (hOd.keepL (by omega) (show Blk W_17.drew _ _ _ from b_15) (by decide) (0 + i * 3) ((s.leases.drop (i + 1)).map rowL).flatten).1
        have c_20 := below_setCells c_16.drew (Nat.le_refl _) (Nat.le_trans hszB hbg) (0 + i * 3) ((s.leases.drop (i + 1)).map rowL).flatten
        have hO2 := hOd.delL i (by omega) (0 + i * 3) (by omega)
        have y3 : (W_17.drew.setCells gr (0 + i * 3) ((s.leases.drop (i + 1)).map rowL).flatten).cell? ⟨w_10.heap.size, 3, none⟩ = some (.slice (some ⟨gr, 0, none⟩) s.leases.length d3) := b_19.cell 3
        have f3 : (W_17.drew.setCells gr (0 + i * 3) ((s.leases.drop (i + 1)).map rowL).flatten).frozen? ⟨w_10.heap.size, 3, none⟩ = false := b_19.frozen 3
        clear hspare hcap hOd hgb b_14 b_15 c_16
        go_region_law (refine step_append_room rfl _ _ 24 rfl 38 i0 3 Tryd.underlying24 hif0 hz1 gr 0 i d3 rfl ad (s.leases.length - (i + 1)) (d3 - (i + 1)) ((s.leases.drop (i + 1)).map rowL).flatten rfl hnl hcells hone hroom hspare2 ?_; generalize (W_17.drew.setCells gr (0 + i * 3) ((s.leases.drop (i + 1)).map rowL).flatten) = W_21 at *)
        all_goals
          rw [erase_len s.leases i (by omega)]
          have b_22 : Blk (W_21.setCell ⟨w_10.heap.size, 3, none⟩ (.slice (some ⟨gr, 0, none⟩) (s.leases.eraseIdx i).length d3)) (w_10.heap.size) 26 #[Value.int .i64 s.rev, Value.slice q1 s.jobs.length d1, Value.slice q2 s.nodes.length d2, Value.slice (some ⟨gr, 0, none⟩) (s.leases.eraseIdx i).length d3] := b_19.set_ 3 _
          have b_23 := b_18.far (p := ⟨w_10.heap.size, 3, none⟩) (show w.heap.size ≠ w_10.heap.size by omega) (.slice (some ⟨gr, 0, none⟩) (s.leases.eraseIdx i).length d3)
          have c_24 := c_20.setCell (p := ⟨w_10.heap.size, 3, none⟩) (show w.heap.size ≤ w_10.heap.size by omega) (.slice (some ⟨gr, 0, none⟩) (s.leases.eraseIdx i).length d3)
          have O_25 := hO2.other (grow_cell W_21 (w_10.heap.size) 3 (.slice (some ⟨gr, 0, none⟩) (s.leases.eraseIdx i).length d3)) b_19 (by decide) (by decide) (by decide)
          clear hO2 b_19 b_18 c_20 x3 y3 f3 hcells hone hspare2 hroom hif hnl
          generalize W_21.setCell ⟨w_10.heap.size, 3, none⟩ (.slice (some ⟨gr, 0, none⟩) (s.leases.eraseIdx i).length d3) = W_26 at *
          have hck := stCheck_any (⟨s.rev, s.jobs, s.nodes, s.leases.eraseIdx i⟩ : St) q1 q2 (some ⟨gr, 0, none⟩) d1 d2 d3 _ O_25.m (HZ.out.delL i) (HT.out.below c_24)
          rw [(fine_iff _).2 (HF.out.lessL (s.leases.eraseIdx i) (List.eraseIdx_sublist _ _))] at hck
          have HCK := Lib.hid hck
          clear hck O_25
          go_wp2_with (first | (refine wpList_load_blk_w (by rfl) _ _ rfl (w.heap.size) rfl _ #[Value.int .i64 s.rev, Value.slice p1 s.jobs.length c1, Value.slice p2 s.nodes.length c2, Value.slice p3 s.leases.length c3] b_23 _ Tryd.underlying26 rfl state_size ?_) | (refine wpList_load_blk_w (by rfl) _ _ rfl (w_10.heap.size) rfl _ #[Value.int .i64 s.rev, Value.slice q1 s.jobs.length d1, Value.slice q2 s.nodes.length d2, Value.slice (some ⟨gr, 0, none⟩) (s.leases.eraseIdx i).length d3] b_22 _ Tryd.underlying26 rfl state_size ?_))
          refine (HCK.out).mono ?_
          rintro e w_27 ⟨rfl, hb_28⟩
          have b_29 := b_23.below hb_28 b_23.lt
          have b_30 := b_22.below hb_28 b_22.lt
          have c_31 := c_24.trans (hb_28.mono c_24.size)
          clear b_23 b_22 c_24 hb_28
          clear b_30
          have e1 : w_27.cell? ⟨w.heap.size, 1, none⟩ = some (.slice p1 s.jobs.length c1) := b_29.cell 1
          go_wp2_with fail
          have e1 : w_27.cell? ⟨w.heap.size, 1, none⟩ = some (.slice p1 s.jobs.length c1) := b_29.cell 1
          go_wp2_with fail
          go_ret
          exact ⟨rfl, c_31⟩
      · have hli : (0 : Int) < (s.leases.length : Int) := by omega
        have HRL := Lib.hid (fun (W : World) => rest_any n (s.leases.length : Int) W (by omega) (by omega))
        have HRLa := Int.emod_nonneg n (show (s.leases.length : Int) ≠ 0 by omega)
        have HRLb := Int.emod_lt_of_pos n (show (0 : Int) < (s.leases.length : Int) by omega)
        generalize hmi : n % (s.leases.length : Int) = mi at *
        obtain ⟨i, rfl⟩ := Int.eq_ofNat_of_zero_le HRLa
        clear hmi HRLa
        have hlti : i < s.leases.length := by omega
        have hji : (0 : Int) < (s.jobs.length : Int) := by omega
        have HRJ := Lib.hid (fun (W : World) => rest_any n (s.jobs.length : Int) W (by omega) (by omega))
        have HRJa := Int.emod_nonneg n (show (s.jobs.length : Int) ≠ 0 by omega)
        have HRJb := Int.emod_lt_of_pos n (show (0 : Int) < (s.jobs.length : Int) by omega)
        generalize hmj : n % (s.jobs.length : Int) = mj at *
        obtain ⟨j, rfl⟩ := Int.eq_ofNat_of_zero_le HRJa
        clear hmj HRJa
        have hltj : j < s.jobs.length := by omega
        clear n1 n2
        go_enter Tryd.func3, Tryd.ntmps3
        go_wp2_with fail
        generalize w.alloc _ = W_1 at *
        refine (stated_any _ (HT.out.below hb0)).mono ?_
        rintro e w_2 ⟨rfl, hb_3⟩
        have b_4 := bx0.below hb_3 bx0.lt
        have c_5 := hb0.trans (hb_3.mono hb0.size)
        clear bx0 hb0 hb_3
        go_wp2_with (first | (refine wpList_load_blk_w (by rfl) _ _ rfl (w.heap.size) rfl _ #[Value.int .i64 s.rev, Value.slice p1 s.jobs.length c1, Value.slice p2 s.nodes.length c2, Value.slice p3 s.leases.length c3] b_4 _ Tryd.underlying26 rfl state_size ?_))
        refine (HC0.out _ c_5).mono ?_
        rintro e w_6 ⟨rfl, hb_7⟩
        have b_8 := b_4.below hb_7 b_4.lt
        have c_9 := c_5.trans (hb_7.mono c_5.size)
        clear b_4 c_5 hb_7
        have e3 : w_6.cell? ⟨w.heap.size, 3, none⟩ = some (.slice p3 s.leases.length c3) := b_8.cell 3
        go_wp2_with (first | (refine wpList_load_blk_w (by rfl) _ _ rfl (w.heap.size) rfl _ #[Value.int .i64 s.rev, Value.slice p1 s.jobs.length c1, Value.slice p2 s.nodes.length c2, Value.slice p3 s.leases.length c3] b_8 _ Tryd.underlying26 rfl state_size ?_))
        refine (HRL.out _).mono ?_
        rintro e w' ⟨rfl, rfl⟩
        clear e3
        go_wp2_with (first | (refine wpList_load_blk_w (by rfl) _ _ rfl (w.heap.size) rfl _ #[Value.int .i64 s.rev, Value.slice p1 s.jobs.length c1, Value.slice p2 s.nodes.length c2, Value.slice p3 s.leases.length c3] b_8 _ Tryd.underlying26 rfl state_size ?_))
        refine (lessOwn_any w.heap.size s p1 p2 p3 c1 c2 c3 _ b_8 ((HM.out.below c_9).more c_9.size) (by omega) (by omega) (by omega)).mono ?_
        rintro e w_10 ⟨q1, q2, q3, d1, d2, d3, rfl, hO, hb_11⟩
        have hszB := c_9.size
        have b_12 := b_8.below hb_11 b_8.lt
        have c_13 := c_9.trans (hb_11.mono c_9.size)
        clear b_8 c_9 hb_11
        have hgd := b_12.lt
        have hO := hO.below ((Below.refl w_10.heap.size w_10).alloc (Nat.le_refl _) (.cells #[Value.int .i64 s.rev, Value.slice q1 s.jobs.length d1, Value.slice q2 s.nodes.length d2, Value.slice q3 s.leases.length d3] 26))
        have b_14 := b_12.alloc (.cells #[Value.int .i64 s.rev, Value.slice q1 s.jobs.length d1, Value.slice q2 s.nodes.length d2, Value.slice q3 s.leases.length d3] 26)
        have b_15 := Blk.new w_10 26 #[Value.int .i64 s.rev, Value.slice q1 s.jobs.length d1, Value.slice q2 s.nodes.length d2, Value.slice q3 s.leases.length d3]
        have c_16 := c_13.alloc c_13.size (.cells #[Value.int .i64 s.rev, Value.slice q1 s.jobs.length d1, Value.slice q2 s.nodes.length d2, Value.slice q3 s.leases.length d3] 26)
        clear b_12 c_13
        go_upto_region 10 with ((refine wpList_store_new rfl _ _ _ rfl rfl 26 _ #[Value.int .i64 s.rev, Value.slice q1 s.jobs.length d1, Value.slice q2 s.nodes.length d2, Value.slice q3 s.leases.length d3] rfl state_size rfl (one_st4 _ _ _ _ _ _ _ _ _ _) ?_))
        generalize w_10.alloc _ = W_17 at *
        have hOd : StOwn W_17.drew _ q1 q2 q3 d1 d2 d3 s := hO.below ((Below.refl W_17.heap.size W_17).drew)
        clear hO
        obtain ⟨gr, cur, hqe, hbg, hgb, hcs, hcc⟩ := hOd.l.where_ (by rw [List.length_map]; omega)
        subst hqe
        rw [List.length_map] at hcc
        have hcap := hOd.l.2
        have hmx : d3 ≤ maxLen := by
          rcases hcap with ⟨h0, _⟩ | ⟨_, _, _, _, _, _, h1, _⟩
          · have := congrArg List.length h0; rw [List.length_map] at this; simp at this; omega
          · exact h1
        unfold maxLen at hmx
        have hi0 : (0 : Int) ≤ (i : Int) := by omega
        have hi1 : (i : Int) ≤ (d3 : Int) := by omega
        have hi2 : (i : Int) + 1 ≤ (d3 : Int) := by omega
        have hi3 : (i : Int) + 1 ≤ (s.leases.length : Int) := by omega
        have hi4 : (0 : Int) ≤ (i : Int) + 1 := by omega
        have hw1 : IntKind.i64.wrap ((i : Int) + 1) = (i : Int) + 1 := IntWalk.i64_in _ (by omega)
        have hw2 : ((i : Int) + 1).toNat = i + 1 := by omega
        obtain ⟨ad, hif, hcells⟩ := hOd.l.tailAt i (by rw [List.length_map]; omega)
        rw [← List.map_drop] at hcells
        have hspare := hOd.l.spare (by rw [List.length_map]; omega) i (s.leases.length - (i + 1)) (by omega) (0 + i * 3) (by omega)
        have hnl : ((s.leases.drop (i + 1)).map rowL).flatten.length = (s.leases.length - (i + 1)) * 3 := by rw [flat_len (size := 3) (fun r hr => by obtain ⟨x, _, rfl⟩ := List.mem_map.1 hr; rfl), List.length_map, List.length_drop]
        have hone := rowsL_one (s.leases.drop (i + 1))
        obtain ⟨i0, hif0, hz0, hz1, hz2⟩ := info_parts lease_infoC
        have hroom : i + (s.leases.length - (i + 1)) ≤ d3 := by omega
        have hspare2 : ∀ jj, jj < ((s.leases.drop (i + 1)).map rowL).flatten.length → (W_17.drew.cell? ⟨gr, 0 + i * 3 + jj, none⟩).isSome = true ∧ W_17.drew.frozen? ⟨gr, 0 + i * 3 + jj, none⟩ = false := fun jj hjj => hspare jj (by rw [← hnl]; exact hjj)
        have x3 : W_17.drew.cell? ⟨w_10.heap.size, 3, none⟩ = some (.slice (some ⟨gr, 0, none⟩) s.leases.length d3) := b_15.cell 3
        have b_18 := (hOd.keepL (by omega) (show Blk W_17.drew _ _ _ from b_14) (by decide) (0 + i * 3) ((s.leases.drop (i + 1)).map rowL).flatten).1
        have b_19 := (hOd.keepL (by omega) (show Blk W_17.drew _ _ _ from b_15) (by decide) (0 + i * 3) ((s.leases.drop (i + 1)).map rowL).flatten).1
        have c_20 := below_setCells c_16.drew (Nat.le_refl _) (Nat.le_trans hszB hbg) (0 + i * 3) ((s.leases.drop (i + 1)).map rowL).flatten
        have hO2 := hOd.delL i (by omega) (0 + i * 3) (by omega)
        have y3 : (W_17.drew.setCells gr (0 + i * 3) ((s.leases.drop (i + 1)).map rowL).flatten).cell? ⟨w_10.heap.size, 3, none⟩ = some (.slice (some ⟨gr, 0, none⟩) s.leases.length d3) := b_19.cell 3
        have f3 : (W_17.drew.setCells gr (0 + i * 3) ((s.leases.drop (i + 1)).map rowL).flatten).frozen? ⟨w_10.heap.size, 3, none⟩ = false := b_19.frozen 3
        clear hspare hcap hOd hgb b_14 b_15 c_16
        go_region_law (refine step_append_room rfl _ _ 24 rfl 38 i0 3 Tryd.underlying24 hif0 hz1 gr 0 i d3 rfl ad (s.leases.length - (i + 1)) (d3 - (i + 1)) ((s.leases.drop (i + 1)).map rowL).flatten rfl hnl hcells hone hroom hspare2 ?_; generalize (W_17.drew.setCells gr (0 + i * 3) ((s.leases.drop (i + 1)).map rowL).flatten) = W_21 at *)
        all_goals
          rw [erase_len s.leases i (by omega)]
          have b_22 : Blk (W_21.setCell ⟨w_10.heap.size, 3, none⟩ (.slice (some ⟨gr, 0, none⟩) (s.leases.eraseIdx i).length d3)) (w_10.heap.size) 26 #[Value.int .i64 s.rev, Value.slice q1 s.jobs.length d1, Value.slice q2 s.nodes.length d2, Value.slice (some ⟨gr, 0, none⟩) (s.leases.eraseIdx i).length d3] := b_19.set_ 3 _
          have b_23 := b_18.far (p := ⟨w_10.heap.size, 3, none⟩) (show w.heap.size ≠ w_10.heap.size by omega) (.slice (some ⟨gr, 0, none⟩) (s.leases.eraseIdx i).length d3)
          have c_24 := c_20.setCell (p := ⟨w_10.heap.size, 3, none⟩) (show w.heap.size ≤ w_10.heap.size by omega) (.slice (some ⟨gr, 0, none⟩) (s.leases.eraseIdx i).length d3)
          have O_25 := hO2.other (grow_cell W_21 (w_10.heap.size) 3 (.slice (some ⟨gr, 0, none⟩) (s.leases.eraseIdx i).length d3)) b_19 (by decide) (by decide) (by decide)
          clear hO2 b_19 b_18 c_20 x3 y3 f3 hcells hone hspare2 hroom hif hnl
          generalize W_21.setCell ⟨w_10.heap.size, 3, none⟩ (.slice (some ⟨gr, 0, none⟩) (s.leases.eraseIdx i).length d3) = W_26 at *
          have hck := stCheck_any (⟨s.rev, s.jobs, s.nodes, s.leases.eraseIdx i⟩ : St) q1 q2 (some ⟨gr, 0, none⟩) d1 d2 d3 _ O_25.m (HZ.out.delL i) (HT.out.below c_24)
          rw [(fine_iff _).2 (HF.out.lessL (s.leases.eraseIdx i) (List.eraseIdx_sublist _ _))] at hck
          have HCK := Lib.hid hck
          clear hck O_25
          go_wp2_with (first | (refine wpList_load_blk_w (by rfl) _ _ rfl (w.heap.size) rfl _ #[Value.int .i64 s.rev, Value.slice p1 s.jobs.length c1, Value.slice p2 s.nodes.length c2, Value.slice p3 s.leases.length c3] b_23 _ Tryd.underlying26 rfl state_size ?_) | (refine wpList_load_blk_w (by rfl) _ _ rfl (w_10.heap.size) rfl _ #[Value.int .i64 s.rev, Value.slice q1 s.jobs.length d1, Value.slice q2 s.nodes.length d2, Value.slice (some ⟨gr, 0, none⟩) (s.leases.eraseIdx i).length d3] b_22 _ Tryd.underlying26 rfl state_size ?_))
          refine (HCK.out).mono ?_
          rintro e w_27 ⟨rfl, hb_28⟩
          have b_29 := b_23.below hb_28 b_23.lt
          have b_30 := b_22.below hb_28 b_22.lt
          have c_31 := c_24.trans (hb_28.mono c_24.size)
          clear b_23 b_22 c_24 hb_28
          clear b_30
          have e1 : w_27.cell? ⟨w.heap.size, 1, none⟩ = some (.slice p1 s.jobs.length c1) := b_29.cell 1
          go_wp2_with fail
          have e1 : w_27.cell? ⟨w.heap.size, 1, none⟩ = some (.slice p1 s.jobs.length c1) := b_29.cell 1
          go_wp2_with fail
          refine (HRJ.out _).mono ?_
          rintro e w' ⟨rfl, rfl⟩
          go_wp2_with (first | (refine wpList_load_blk_w (by rfl) _ _ rfl (w.heap.size) rfl _ #[Value.int .i64 s.rev, Value.slice p1 s.jobs.length c1, Value.slice p2 s.nodes.length c2, Value.slice p3 s.leases.length c3] b_29 _ Tryd.underlying26 rfl state_size ?_))
          refine (lessOwn_any w.heap.size s p1 p2 p3 c1 c2 c3 _ b_29 ((HM.out.below c_31).more c_31.size) (by omega) (by omega) (by omega)).mono ?_
          rintro e w_32 ⟨q1, q2, q3, d1, d2, d3, rfl, hO, hb_33⟩
          have hszB := c_31.size
          have b_34 := b_29.below hb_33 b_29.lt
          have c_35 := c_31.trans (hb_33.mono c_31.size)
          clear b_29 c_31 hb_33
          have hgd := b_34.lt
          have hO := hO.below ((Below.refl w_32.heap.size w_32).alloc (Nat.le_refl _) (.cells #[Value.int .i64 s.rev, Value.slice q1 s.jobs.length d1, Value.slice q2 s.nodes.length d2, Value.slice q3 s.leases.length d3] 26))
          have b_36 := b_34.alloc (.cells #[Value.int .i64 s.rev, Value.slice q1 s.jobs.length d1, Value.slice q2 s.nodes.length d2, Value.slice q3 s.leases.length d3] 26)
          have b_37 := Blk.new w_32 26 #[Value.int .i64 s.rev, Value.slice q1 s.jobs.length d1, Value.slice q2 s.nodes.length d2, Value.slice q3 s.leases.length d3]
          have c_38 := c_35.alloc c_35.size (.cells #[Value.int .i64 s.rev, Value.slice q1 s.jobs.length d1, Value.slice q2 s.nodes.length d2, Value.slice q3 s.leases.length d3] 26)
          clear b_34 c_35
          go_upto_region 17 with ((refine wpList_store_new rfl _ _ _ rfl rfl 26 _ #[Value.int .i64 s.rev, Value.slice q1 s.jobs.length d1, Value.slice q2 s.nodes.length d2, Value.slice q3 s.leases.length d3] rfl state_size rfl (one_st4 _ _ _ _ _ _ _ _ _ _) ?_))
          generalize w_32.alloc _ = W_39 at *
          have hOd : StOwn W_39.drew _ q1 q2 q3 d1 d2 d3 s := hO.below ((Below.refl W_39.heap.size W_39).drew)
          clear hO
          obtain ⟨gr, cur, hqe, hbg, hgb, hcs, hcc⟩ := hOd.j.where_ (by rw [List.length_map]; omega)
          subst hqe
          rw [List.length_map] at hcc
          have hcap := hOd.j.2
          have hmx : d1 ≤ maxLen := by
            rcases hcap with ⟨h0, _⟩ | ⟨_, _, _, _, _, _, h1, _⟩
            · have := congrArg List.length h0; rw [List.length_map] at this; simp at this; omega
            · exact h1
          unfold maxLen at hmx
          have hi0 : (0 : Int) ≤ (j : Int) := by omega
          have hi1 : (j : Int) ≤ (d1 : Int) := by omega
          have hi2 : (j : Int) + 1 ≤ (d1 : Int) := by omega
          have hi3 : (j : Int) + 1 ≤ (s.jobs.length : Int) := by omega
          have hi4 : (0 : Int) ≤ (j : Int) + 1 := by omega
          have hw1 : IntKind.i64.wrap ((j : Int) + 1) = (j : Int) + 1 := IntWalk.i64_in _ (by omega)
          have hw2 : ((j : Int) + 1).toNat = j + 1 := by omega
          obtain ⟨ad, hif, hcells⟩ := hOd.j.tailAt j (by rw [List.length_map]; omega)
          rw [← List.map_drop] at hcells
          have hspare := hOd.j.spare (by rw [List.length_map]; omega) j (s.jobs.length - (j + 1)) (by omega) (0 + j * 5) (by omega)
          have hnl : ((s.jobs.drop (j + 1)).map rowJ).flatten.length = (s.jobs.length - (j + 1)) * 5 := by rw [flat_len (size := 5) (fun r hr => by obtain ⟨x, _, rfl⟩ := List.mem_map.1 hr; rfl), List.length_map, List.length_drop]
          have hone := rowsJ_one (s.jobs.drop (j + 1))
          obtain ⟨i0, hif0, hz0, hz1, hz2⟩ := info_parts job_infoC
          have hroom : j + (s.jobs.length - (j + 1)) ≤ d1 := by omega
          have hspare2 : ∀ jj, jj < ((s.jobs.drop (j + 1)).map rowJ).flatten.length → (W_39.drew.cell? ⟨gr, 0 + j * 5 + jj, none⟩).isSome = true ∧ W_39.drew.frozen? ⟨gr, 0 + j * 5 + jj, none⟩ = false := fun jj hjj => hspare jj (by rw [← hnl]; exact hjj)
          have x3 : W_39.drew.cell? ⟨w_32.heap.size, 1, none⟩ = some (.slice (some ⟨gr, 0, none⟩) s.jobs.length d1) := b_37.cell 1
          have b_40 := (hOd.keepJs (by omega) (show Blk W_39.drew _ _ _ from b_36) (by decide) (0 + j * 5) ((s.jobs.drop (j + 1)).map rowJ).flatten).1
          have b_41 := (hOd.keepJs (by omega) (show Blk W_39.drew _ _ _ from b_37) (by decide) (0 + j * 5) ((s.jobs.drop (j + 1)).map rowJ).flatten).1
          have c_42 := below_setCells c_38.drew (Nat.le_refl _) (Nat.le_trans hszB hbg) (0 + j * 5) ((s.jobs.drop (j + 1)).map rowJ).flatten
          have hO2 := hOd.delJ j (by omega) (0 + j * 5) (by omega)
          have y3 : (W_39.drew.setCells gr (0 + j * 5) ((s.jobs.drop (j + 1)).map rowJ).flatten).cell? ⟨w_32.heap.size, 1, none⟩ = some (.slice (some ⟨gr, 0, none⟩) s.jobs.length d1) := b_41.cell 1
          have f3 : (W_39.drew.setCells gr (0 + j * 5) ((s.jobs.drop (j + 1)).map rowJ).flatten).frozen? ⟨w_32.heap.size, 1, none⟩ = false := b_41.frozen 1
          clear hspare hcap hOd hgb b_36 b_37 c_38
          go_region_law (refine step_append_room rfl _ _ 22 rfl 32 i0 5 Tryd.underlying22 hif0 hz1 gr 0 j d1 rfl ad (s.jobs.length - (j + 1)) (d1 - (j + 1)) ((s.jobs.drop (j + 1)).map rowJ).flatten rfl hnl hcells hone hroom hspare2 ?_; generalize (W_39.drew.setCells gr (0 + j * 5) ((s.jobs.drop (j + 1)).map rowJ).flatten) = W_43 at *)
          all_goals
            rw [erase_len s.jobs j (by omega)]
            have b_44 : Blk (W_43.setCell ⟨w_32.heap.size, 1, none⟩ (.slice (some ⟨gr, 0, none⟩) (s.jobs.eraseIdx j).length d1)) (w_32.heap.size) 26 #[Value.int .i64 s.rev, Value.slice (some ⟨gr, 0, none⟩) (s.jobs.eraseIdx j).length d1, Value.slice q2 s.nodes.length d2, Value.slice q3 s.leases.length d3] := b_41.set_ 1 _
            have b_45 := b_40.far (p := ⟨w_32.heap.size, 1, none⟩) (show w.heap.size ≠ w_32.heap.size by omega) (.slice (some ⟨gr, 0, none⟩) (s.jobs.eraseIdx j).length d1)
            have c_46 := c_42.setCell (p := ⟨w_32.heap.size, 1, none⟩) (show w.heap.size ≤ w_32.heap.size by omega) (.slice (some ⟨gr, 0, none⟩) (s.jobs.eraseIdx j).length d1)
            have O_47 := hO2.other (grow_cell W_43 (w_32.heap.size) 1 (.slice (some ⟨gr, 0, none⟩) (s.jobs.eraseIdx j).length d1)) b_41 (by decide) (by decide) (by decide)
            clear hO2 b_41 b_40 c_42 x3 y3 f3 hcells hone hspare2 hroom hif hnl
            generalize W_43.setCell ⟨w_32.heap.size, 1, none⟩ (.slice (some ⟨gr, 0, none⟩) (s.jobs.eraseIdx j).length d1) = W_48 at *
            have hiff := HF.out.lessJ j hltj
            obtain ⟨xj, hxj⟩ : ∃ xj, s.jobs[j]? = some xj := ⟨_, List.getElem?_eq_getElem hltj⟩
            have hxj2 : s.jobs[j] = xj := by have := List.getElem?_eq_getElem hltj; rw [hxj] at this; injection this with this; exact this.symm
            rw [hxj2] at hiff
            have HCK := Lib.hid (fun (W : World) (hW : Abv W_48 W) => stCheck_any (⟨s.rev, s.jobs.eraseIdx j, s.nodes, s.leases⟩ : St) (some ⟨gr, 0, none⟩) q2 q3 d1 d2 d3 W ((O_47.m.below hW).more hW.size) (HZ.out.delJ j) (HT.out.below (c_46.trans (Below.mono hW c_46.size))))
            have HLA := Lib.hid (fun (W : World) (hW : Abv W_48 W) => atL_any p3 c3 s.leases xj.name W ((HM.out.l.below (c_46.trans (Below.mono hW c_46.size))).more (Nat.le_trans c_46.size hW.size)) (by omega))
            obtain ⟨ja, hja, hjb, _, hjat⟩ := ((HM.out.j.below c_46).more c_46.size).at_ (k := j) (r := rowJ xj) (by rw [List.getElem?_map, hxj]; rfl)
            subst hja
            have hjn : ∀ W, Abv W_48 W → W.cell? (ja.add (j * 5)) = some (.string xj.name) := fun W hW => by have := (At.below hjat hW (by rw [block_of_add]; exact hjb)) 0 (.string xj.name) rfl; rwa [show (ja.add (j * 5)).add 0 = ja.add (j * 5) from by unfold Addr.add; simp] at this
            have hcs : ∀ W, Abv W_48 W → W.cell? ⟨w.heap.size, 1, none⟩ = some (.slice (some ja) s.jobs.length c1) ∧ W.cell? ⟨w.heap.size, 3, none⟩ = some (.slice p3 s.leases.length c3) ∧ W.cell? (ja.add (j * 5)) = some (.string xj.name) := fun W hW => ⟨(b_45.below hW b_45.lt).cell 1, (b_45.below hW b_45.lt).cell 3, hjn W hW⟩
            have HQ := Lib.hid hcs
            obtain ⟨ce, hce⟩ : ∃ ce, checkE (⟨s.rev, s.jobs.eraseIdx j, s.nodes, s.leases⟩ : St) = ce := ⟨_, rfl⟩
            obtain ⟨ix, hix⟩ : ∃ ix, ixBy LeaseD.job s.leases xj.name 0 = ix := ⟨_, rfl⟩
            rw [hce, hix] at hiff
            rw [hce] at HCK
            rw [hix] at HLA
            have hbb : ((ce : Int) == 0) = decide (ix < 0) := by rw [Bool.eq_iff_iff, beq_iff_eq, decide_eq_true_iff]; exact ⟨fun h => hiff.1 (by omega), fun h => by have := hiff.2 h; omega⟩
            have hjw : IntKind.i64.wrap (j : Int) = (j : Int) := IntWalk.i64_in _ (by omega)
            have hj1 : (j : Int) < (s.jobs.length : Int) := by omega
            clear hiff hxj hxj2 hjat hjn hcs hce hix O_47
            go_upto_region 18 with (fail)
            refine wp_region_abv (by kernel_rfl) (by kernel_rfl) ?_
            repeat (first
              | (refine wpQuiet_load_g (by rfl) _ _ rfl ⟨w_32.heap.size, 0, none⟩ rfl [Value.int .i64 s.rev, Value.slice (some ⟨gr, 0, none⟩) (s.jobs.eraseIdx j).length d1, Value.slice q2 s.nodes.length d2, Value.slice q3 s.leases.length d3] _ (fun w5 hw5 => At.blk (b_44.below hw5 b_44.lt)) Tryd.underlying26 rfl state_size ?_; simp only [Act.put, List.setIfInBounds_toArray, List.set_cons_zero, List.set_cons_succ])
              | (apply wpQuiet_do; (focus rfl); (focus (intro w5 hw5; obtain ⟨k1, k3, k5⟩ := HQ.out w5 hw5; unfold Oper.quietAt; go_simp; first | rfl | exact ⟨rfl, rfl⟩ | (with_reducible refine (HCK.out w5 hw5).mono ?_; rintro e w8 ⟨rfl, hb8⟩; exact ⟨rfl, Abv.step hw5 hb8⟩) | (with_reducible refine (HLA.out w5 hw5).mono ?_; rintro e w8 ⟨rfl, hb8⟩; exact ⟨rfl, Abv.step hw5 hb8⟩))); simp only [Act.put, List.setIfInBounds_toArray, List.set_cons_zero, List.set_cons_succ]))
            refine wpQuiet_nil ?_
            intro w9 hw9
            have hb9 : Below W_48.heap.size W_48 w9 := hw9
            clear hw9
            have hB9 := c_46.trans (hb9.mono c_46.size)
            generalize decide (ix < 0) = bx at *
            clear hb9 HQ HCK HLA
            go_wp2_with fail
            go_ret
            exact ⟨rfl, hB9⟩
  · have hne : ((checkE s : Int) != 0) = true := by rw [bne_iff_ne]; omega
    generalize checkE s = ce at *
    clear hc n1 n2
    go_enter Tryd.func3, Tryd.ntmps3
    go_wp2_with fail
    generalize w.alloc _ = W_1 at *
    refine (stated_any _ (HT.out.below hb0)).mono ?_
    rintro e w_2 ⟨rfl, hb_3⟩
    have b_4 := bx0.below hb_3 bx0.lt
    have c_5 := hb0.trans (hb_3.mono hb0.size)
    clear bx0 hb0 hb_3
    go_wp2_with (first | (refine wpList_load_blk_w (by rfl) _ _ rfl (w.heap.size) rfl _ #[Value.int .i64 s.rev, Value.slice p1 s.jobs.length c1, Value.slice p2 s.nodes.length c2, Value.slice p3 s.leases.length c3] b_4 _ Tryd.underlying26 rfl state_size ?_))
    refine (HC.out _ c_5).mono ?_
    rintro e w_6 ⟨rfl, hb_7⟩
    have b_8 := b_4.below hb_7 b_4.lt
    have c_9 := c_5.trans (hb_7.mono c_5.size)
    clear b_4 c_5 hb_7
    go_wp2_with (first | (refine wpList_load_blk_w (by rfl) _ _ rfl (w.heap.size) rfl _ #[Value.int .i64 s.rev, Value.slice p1 s.jobs.length c1, Value.slice p2 s.nodes.length c2, Value.slice p3 s.leases.length c3] b_8 _ Tryd.underlying26 rfl state_size ?_))
    go_ret
    exact ⟨rfl, c_9⟩

theorem own : ownKnob Tryd.prog.godebug = none := by kernel_rfl
theorem laid : laidOutB Tryd.prog = true := by kernel_rfl
set_option maxRecDepth 100000 in
theorem contract (H : Type) (enc : TypeId × Value → H) (W : World) (base : Nat) (args : Array Value) (ds gs : List (DataW H)) (before : List MemPlace)
    (hval0 : ∀ (j : Nat) t v, Tryd.f3.params[j]? = some t → args[j]? = some v → Value.okWide Tryd.prog W .any base t v)
    (hW : DataW.Whole enc Tryd.prog Tryd.f3.params.toList Rows.stateLessSpec.vars false W args.toList ds gs before)
    (hsz0 : (DataW.weightsEach Tryd.prog (Tryd.f3.params.toList ++ Rows.stateLessSpec.plain.varTypes Tryd.prog) (ds ++ gs)).all (· ≤ reachBytes) = true)
    (hT : Tabs W) :
    Calls Tryd.prog 3 args W fun e W' => ∃ v, e = .returned v ∧ Rows.stateLessSpec.post enc Tryd.prog Tryd.f3 false true false false W args v W' := by
  have hval : ∀ (j : Nat) t v, Tryd.f3.params[j]? = some t → args[j]? = some v → Value.okWide Tryd.prog W .any base t v := hval0
  have hsz : (DataW.weightsEach Tryd.prog (Tryd.f3.params.toList ++ Rows.stateLessSpec.plain.varTypes Tryd.prog) (ds ++ gs)).all (· ≤ reachBytes) = true := hsz0
  have hlt : ∀ x ∈ before, x.block < W.heap.size := fun x hx => hW.lt x hx
  have hW' := hW
  obtain ⟨p, q, hA0, hV, rfl, hfz, hnd⟩ := hW
  have hA : DataW.TrodAll enc Tryd.prog W 0 (fun _ => true) true Tryd.f3.params.toList args.toList ds p := hA0
  rw [Tryd.params3] at hA hval hsz
  obtain ⟨v0, vs0, d0, ds0, p0, q0, hargs, rfl, rfl, h0, r0⟩ := trodAll_cons hA
  obtain ⟨v1, vs1, d1, ds1, p1, q1, rfl, rfl, rfl, h1, r1⟩ := trodAll_cons r0
  obtain ⟨rfl, rfl, rfl⟩ := trodAll_nil r1
  obtain rfl : args = #[v0, v1] := by cases args; simp_all
  obtain ⟨rfl, rfl⟩ := trodVars_none hV
  obtain ⟨s0, pj0, pn0, pl0, cj0, cn0, cl0, rfl, hm0, hk0⟩ := open_state (hval 0 26 v0 rfl rfl) h0 hsz (j := 0) rfl rfl
  obtain ⟨a1, rfl, rfl, rfl, w1⟩ := open_int Tryd.underlying3 (hval 1 3 v1 rfl rfl) h1
  have b1 := bounds_i64 w1
  refine (walk s0 pj0 pn0 pl0 cj0 cn0 cl0 W hm0 hk0 a1 b1.1 b1.2 hT).mono fun e W' ⟨he, hb⟩ => ?_
  subst he
  exact ⟨_, rfl, law_post laid (by kernel_rfl) Tryd.underlying4 rfl rfl hW' rfl rfl rfl rfl hb⟩

theorem reads (os : Os) {H : Type} (enc : TypeId × Value → H) : ∃ places, DataW.whole enc Tryd.prog ((laidWorld os).forCall (fun _ _ => 0) ⟨#[], #[.agg #[.int .i64 0, .slice none 0 0, .slice none 0 0, .slice none 0 0], .int .i64 0], []⟩).memory Tryd.f3.params.toList Rows.stateLessSpec.vars false (#[.agg #[.int .i64 0, .slice none 0 0, .slice none 0 0, .slice none 0 0], .int .i64 0] : Array Value).toList 8 = some ([.agg [.lit (.int .i64 0), .nil, .nil, .nil], .lit (.int .i64 0)], [], places) :=
  ⟨[], by kernel_rfl⟩
set_option maxRecDepth 100000 in
theorem lifted (os : Os) (started : os.Started) (H : Type) (enc : TypeId × Value → H) (F : Stop.Interp) :
    ReturnsInHanded {} Tryd.checked os 3 .any ((OpenSpec.ofChange Rows.stateLessSpec).preRow enc Tryd.prog Tryd.f3 Rows.stateLessRow.domain false Rows.stateLessRow.laid) (((OpenSpec.ofChange Rows.stateLessSpec).at F).post enc Tryd.prog Tryd.f3 false true false false) := by
  obtain ⟨places, hx⟩ := reads os enc
  refine returnsInHanded_of_row (C := Tryd.checked) (s := (OpenSpec.ofChange Rows.stateLessSpec)) own started (by kernel_rfl) Tryd.func3
    (witness_row_atRef (enc := enc) (C := Tryd.checked) false (laidWorld os) #[.agg #[.int .i64 0, .slice none 0 0, .slice none 0 0, .slice none 0 0], .int .i64 0] rfl (by kernel_rfl) (by kernel_rfl) (by kernel_rfl)
      (OpenSpec.preRow_of_cond 8 hx (by kernel_rfl) (fun k hk => by cases hk) (by kernel_rfl) (laid_met os _))) ?_
  intro W base args ds gs before hval0 hW _ hcond hsz0 hL _ _
  exact contract H enc W base args ds gs before hval0 hW hsz0 (tabs_of_laid hL)

theorem said : Rows.StateLessSaid :=
  OpenClaim.holds_of_cond 3 Tryd.f3 rfl rfl rfl rfl rfl rfl rfl ⟨rfl, rfl, rfl, rfl, rfl⟩ rfl rfl rfl rfl rfl (by kernel_rfl) Tryd.func3 (by kernel_rfl)
    (of_decide_eq_true (by kernel_rfl)) (by unfold Func.isWrapper; first | (rw [if_pos (by decide +kernel)]; kernel_rfl) | (rw [if_neg (by decide +kernel)]; exact ⟨rfl, rfl⟩))
    (fun os started H enc _ F => by rw [OpenClaim.pre_eq_preRow]; exact lifted os started H enc F)

/-- No parameter wants a stand-in; the program's own looks are off. -/
theorem plain (f : FuncId) (fn : Func) (hf : Tryd.pinned.checked.prog.funcNamed "bracken/brackenkeep.StateLess" = some f) (hfn : Tryd.pinned.checked.prog.funcs[f]? = some fn) :
    false = Tryd.pinned.checked.prog.looks [] ∧ ∀ (j : Nat) t, fn.params[j]? = some t → Tryd.pinned.checked.prog.wantsStandIn t = false := by
  obtain rfl : f = 3 := Option.some.inj ((show Tryd.prog.funcNamed "bracken/brackenkeep.StateLess" = some 3 by kernel_rfl).symm.trans hf) |>.symm
  obtain rfl : fn = Tryd.f3 := (Option.some.inj (Tryd.func3.symm.trans hfn)).symm
  refine ⟨by kernel_rfl, fun j t ht => ?_⟩
  rw [Tryd.params3] at ht
  have hm := Array.mem_of_getElem? ht
  have hall : (#[26, 3] : Array TypeId).all (fun t => !Tryd.prog.wantsStandIn t) = true := by kernel_rfl
  have := Array.all_eq_true_iff_forall_mem.1 hall t (by simpa using hm)
  show Tryd.prog.wantsStandIn t = false
  simpa using this

/-- The statement. -/
theorem proved : Rows.StateLessCardSaid :=
  Claim7.holds_tied_plain_at .later [] _ _ _ _ said (fun _ h => by cases h) (by kernel_rfl) (fun _ h => by cases h) stateLess_row_tie rfl ⟨rfl, rfl⟩ (by kernel_rfl) rfl plain (by kernel_rfl)
#print axioms proved
end Go.Proofs.YtnmokjgnbcfabaaDoor.stateLess
