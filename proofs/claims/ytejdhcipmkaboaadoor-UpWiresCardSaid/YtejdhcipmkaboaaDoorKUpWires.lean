/-
  The law UpWires of package brackenkeep: for every input it answers true.
-/
import Derived.Test.YtejdhcipmkaboaaDoorRows
import Derived.Test.YtejdhcipmkaboaaDoorPkBase
import Derived.Test.YtejdhcipmkaboaaDoorPkDown
import Derived.Test.YtejdhcipmkaboaaDoorPkUp
import Derived.Test.YtejdhcipmkaboaaDoorPkUpB
import Derived.Test.YtejdhcipmkaboaaDoorPkSame
import Derived.Test.YtejdhcipmkaboaaDoorPkStateB
set_option linter.unusedVariables false
set_option linter.unusedSimpArgs false
namespace Go.Proofs.YtejdhcipmkaboaaDoor.upWires
open Go.ChangeShapes Go.WideShapes Go.ChangeAt Go.RowKit Go.Joins
open Go.ChangeMaps (open_string)
theorem fitsR_fineE {v : Int} {s : St} (hc : checkE s = 0) (hv : 1 ≤ v ∧ v ≤ 3) : fitsR s v = (fitsB s v, 0) := by
  rw [fitsR_in s v hv, if_neg (by rw [hc]; simp)]
theorem encR_fits {v : Int} {s : St} (h : (encR v s).2 = 0) : fitsB s v = true := by
  obtain ⟨_, _, hc, hv⟩ := encR_ok h
  unfold encR at h
  rw [fitsR_fineE hc hv] at h
  cases hf : fitsB s v
  · rw [hf] at h; simp at h
  · rfl
theorem encR_fine {v : Int} {s : St} (h : Fine s) (hf : fitsB s v = true) (hv : 1 ≤ v ∧ v ≤ 3) : encR v s = (encS v s, 0) := by
  unfold encR
  rw [fitsR_fineE ((fine_iff s).2 h) hv, hf]
  simp
set_option maxHeartbeats 8000000 in
set_option maxRecDepth 100000 in
theorem walk (s : St) (p1 p2 p3 : Option Addr) (c1 c2 c3 : Nat) (w : World) (hm : StM w w.heap.size p1 p2 p3 s) (hk : StOk s) (n : Int) (n1 : -9223372036854775808 ≤ n) (n2 : n ≤ 9223372036854775807) (n' : Int) (n3 : -9223372036854775808 ≤ n') (n4 : n' ≤ 9223372036854775807) (hT : Tabs w) :
    Calls Tryd.prog 12 #[.agg #[.int .i64 s.rev, .slice p1 s.jobs.length c1, .slice p2 s.nodes.length c2, .slice p3 s.leases.length c3], .int .i64 n, .int .i64 n'] w fun e w' => e = .returned (.bool true) ∧ Below w.heap.size w w' := by
  have hb0 : Below w.heap.size w (w.alloc (.cells #[Value.int .i64 s.rev, Value.slice p1 s.jobs.length c1, Value.slice p2 s.nodes.length c2, Value.slice p3 s.leases.length c3] 26)) := (Below.refl _ _).alloc (Nat.le_refl _) _
  have bx0 := Blk.new w 26 #[Value.int .i64 s.rev, Value.slice p1 s.jobs.length c1, Value.slice p2 s.nodes.length c2, Value.slice p3 s.leases.length c3]
  have hz := hk.sz
  have h30v := Int.emod_nonneg n (show (3 : Int) ≠ 0 by decide)
  have h33v := Int.emod_lt_of_pos n (show (0 : Int) < 3 by decide)
  have HR := Lib.hid (fun (W : World) => rest_any n 3 W (by decide) (by decide))
  generalize n % 3 = m at *
  obtain ⟨v, rfl⟩ : ∃ v : Nat, m = (v : Int) - 1 := ⟨(m + 1).toNat, by omega⟩
  have hvv : 1 ≤ v ∧ v ≤ 3 := by omega
  have h30u := Int.emod_nonneg n' (show (3 : Int) ≠ 0 by decide)
  have h33u := Int.emod_lt_of_pos n' (show (0 : Int) < 3 by decide)
  have HR2 := Lib.hid (fun (W : World) => rest_any n' 3 W (by decide) (by decide))
  generalize n' % 3 = m' at *
  obtain ⟨u, rfl⟩ : ∃ u : Nat, m' = (u : Int) - 1 := ⟨(m' + 1).toNat, by omega⟩
  have hvu : 1 ≤ u ∧ u ≤ 3 := by omega
  have HM := Lib.hid hm
  have HZ := Lib.hid hz
  have HT := Lib.hid hT
  have hzs := zero_state_lit
  have HE' := Lib.hid (fun (x : Nat) (W : World) (hW : Below w.heap.size w W) => encode_state s (x : Int) p1 p2 p3 c1 c2 c3 W ((hm.below hW).more hW.size) hz (hT.below hW))
  have HU' := Lib.hid (fun (x y : Nat) (W : World) (hW : Below w.heap.size w W) => upState_any s (x : Int) (y : Int) p1 p2 p3 c1 c2 c3 W ((hm.below hW).more hW.size) hz (hT.below hW))
  clear hm hk hz hT n1 n2 n3 n4
  by_cases hlt : u < v
  · by_cases h0 : (encR (u : Int) s).2 = 0
    · have hf := encR_fits h0
      obtain ⟨h1, hok, hc, hvv⟩ := encR_ok h0
      have hF := (fine_iff s).1 hc
      have hl := encS_len hok
      have hdec := decT_enc hok hc hvv
      have hFt := hF.upTo u (v - u)
      have hft : fitsB (upTo s u (v - u)) (v : Int) = true := by have := fits_upTo u (v - u) hf (by omega) (by omega); rwa [show ((u : Int) + ((v - u : Nat) : Int)) = (v : Int) by omega] at this
      have het := encR_fine hFt hft (by omega)
      have hub : upBR (encS (u : Int) s) (u : Int) (v : Int) = (encS (v : Int) (upTo s u (v - u)), 0) := by
        unfold upBR
        rw [decide_eq_true (show 1 ≤ (u : Int) ∧ (u : Int) ≤ (v : Int) ∧ (v : Int) ≤ 3 by omega), if_neg (by simp), hdec, if_neg (by simp), show ((u : Int)).toNat = u by omega, show ((v : Int) - (u : Int)).toNat = v - u by omega, het]
      have hup := upR_of (a := (u : Int)) (b := (v : Int)) (by omega) hF hf
      rw [show ((u : Int)).toNat = u by omega, show ((v : Int) - (u : Int)).toNat = v - u by omega] at hup
      have he := HE'.out u
      rw [h1] at he
      have HE2 := Lib.hid he
      have HU2 := Lib.hid (HU'.out u v)
      have HUB := Lib.hid hub
      have HUP := Lib.hid hup
      have HET := Lib.hid het
      have HSU := Lib.hid hFt.sz
      generalize encS (u : Int) s = out at *
      generalize encS (v : Int) (upTo s u (v - u)) = out3 at *
      generalize upTo s u (v - u) = tt at *
      have hsz : (bstr out).size ≤ 20000 := by rw [bstr_size]; omega
      clear h0 hf h1 hok hc hvv hF hl hdec hFt hft het hub hup he HE' HU'
      have HO := Lib.hid (bstr_list out)
      have HET2 : Hid (bstr (encR (v : Int) tt).1 = bstr out3 ∧ (encR (v : Int) tt).2 = 0) := Lib.hid ⟨by rw [HET.out], by rw [HET.out]⟩
      clear HET
      generalize bstr out = so at *
      generalize hso3 : bstr out3 = so3 at *
      have HS3 := Lib.hid hso3
      clear hso3
      have hcmp : (v : Int) > (u : Int) := by omega
      go_enter Tryd.func12, Tryd.ntmps12
      go_wp2_with fail
      generalize w.alloc _ = W_1 at *
      refine (upped_any _ (HT.out.below hb0)).mono ?_
      rintro e w_2 ⟨rfl, hb_3⟩
      have b_4 := bx0.below hb_3 bx0.lt
      have c_5 := hb0.trans (hb_3.mono hb0.size)
      clear bx0 hb0 hb_3
      go_wp2_with (first | (refine wpList_load_blk_w (by rfl) _ _ rfl (w.heap.size) rfl _ #[Value.int .i64 s.rev, Value.slice p1 s.jobs.length c1, Value.slice p2 s.nodes.length c2, Value.slice p3 s.leases.length c3] b_4 _ Tryd.underlying26 rfl state_size ?_))
      refine (HR.out _).mono ?_
      rintro e w' ⟨rfl, rfl⟩
      go_wp2_with (first | (refine wpList_load_blk_w (by rfl) _ _ rfl (w.heap.size) rfl _ #[Value.int .i64 s.rev, Value.slice p1 s.jobs.length c1, Value.slice p2 s.nodes.length c2, Value.slice p3 s.leases.length c3] b_4 _ Tryd.underlying26 rfl state_size ?_))
      refine (HR2.out _).mono ?_
      rintro e w' ⟨rfl, rfl⟩
      go_wp2_with (first | (refine wpList_load_blk_w (by rfl) _ _ rfl (w.heap.size) rfl _ #[Value.int .i64 s.rev, Value.slice p1 s.jobs.length c1, Value.slice p2 s.nodes.length c2, Value.slice p3 s.leases.length c3] b_4 _ Tryd.underlying26 rfl state_size ?_))
      refine (HE2.out _ c_5).mono ?_
      rintro e w_6 ⟨rfl, hb_7⟩
      have b_8 := b_4.below hb_7 b_4.lt
      have c_9 := c_5.trans (hb_7.mono c_5.size)
      clear b_4 c_5 hb_7
      go_wp2_with (first | (refine wpList_load_blk_w (by rfl) _ _ rfl (w.heap.size) rfl _ #[Value.int .i64 s.rev, Value.slice p1 s.jobs.length c1, Value.slice p2 s.nodes.length c2, Value.slice p3 s.leases.length c3] b_8 _ Tryd.underlying26 rfl state_size ?_))
      have hb := upBytes_any so (u : Int) (v : Int) _ (Nat.le_trans hsz (by decide)) (HT.out.below c_9)
      rw [HO.out, HUB.out, HS3.out] at hb
      have HB1 := Lib.hid hb
      clear hb
      refine (HB1.out).mono ?_
      rintro e w_10 ⟨rfl, hb_11⟩
      have b_12 := b_8.below hb_11 b_8.lt
      have c_13 := c_9.trans (hb_11.mono c_9.size)
      clear b_8 c_9 hb_11
      go_wp2_with (first | (refine wpList_load_blk_w (by rfl) _ _ rfl (w.heap.size) rfl _ #[Value.int .i64 s.rev, Value.slice p1 s.jobs.length c1, Value.slice p2 s.nodes.length c2, Value.slice p3 s.leases.length c3] b_12 _ Tryd.underlying26 rfl state_size ?_))
      refine (HU2.out _ c_13).mono ?_
      rintro e w_14 ⟨t, er, q1, q2, q3, d1, d2, d3, rfl, hmt, hb_15, hd⟩
      rw [HUP.out] at hd
      injection hd with h1 h2
      subst h1 h2
      have b_16 := b_12.below hb_15 b_12.lt
      have c_17 := c_13.trans (hb_15.mono c_13.size)
      clear b_12 c_13 hb_15
      have k_18 := Below.refl w_14.heap.size w_14
      have HMU := Lib.hid hmt
      clear hmt
      have b_19 := b_16.alloc (.cells #[Value.int .i64 tt.rev, Value.slice q1 tt.jobs.length d1, Value.slice q2 tt.nodes.length d2, Value.slice q3 tt.leases.length d3] 26)
      have b_20 := Blk.new w_14 26 #[Value.int .i64 tt.rev, Value.slice q1 tt.jobs.length d1, Value.slice q2 tt.nodes.length d2, Value.slice q3 tt.leases.length d3]
      have c_21 := c_17.alloc c_17.size (.cells #[Value.int .i64 tt.rev, Value.slice q1 tt.jobs.length d1, Value.slice q2 tt.nodes.length d2, Value.slice q3 tt.leases.length d3] 26)
      have c_22 := k_18.alloc k_18.size (.cells #[Value.int .i64 tt.rev, Value.slice q1 tt.jobs.length d1, Value.slice q2 tt.nodes.length d2, Value.slice q3 tt.leases.length d3] 26)
      clear b_16 c_17 k_18
      go_wp2_with (first | (refine wpList_store_new rfl _ _ _ rfl rfl 26 _ #[Value.int .i64 tt.rev, Value.slice q1 tt.jobs.length d1, Value.slice q2 tt.nodes.length d2, Value.slice q3 tt.leases.length d3] rfl state_size rfl (one_st4 _ _ _ _ _ _ _ _ _ _) ?_) | (refine wpList_load_blk_w (by rfl) _ _ rfl (w.heap.size) rfl _ #[Value.int .i64 s.rev, Value.slice p1 s.jobs.length c1, Value.slice p2 s.nodes.length c2, Value.slice p3 s.leases.length c3] b_19 _ Tryd.underlying26 rfl state_size ?_) | (refine wpList_load_blk_w (by rfl) _ _ rfl (w_14.heap.size) rfl _ #[Value.int .i64 tt.rev, Value.slice q1 tt.jobs.length d1, Value.slice q2 tt.nodes.length d2, Value.slice q3 tt.leases.length d3] b_20 _ Tryd.underlying26 rfl state_size ?_))
      generalize w_14.alloc _ = W_23 at *
      have he := encode_state tt (v : Int) q1 q2 q3 d1 d2 d3 _ ((HMU.out.below c_22).more c_22.size) HSU.out (HT.out.below c_21)
      rw [HET2.out.1, HET2.out.2] at he
      have HE3 := Lib.hid he
      clear he
      refine (HE3.out).mono ?_
      rintro e w_24 ⟨rfl, hb_25⟩
      have b_26 := b_19.below hb_25 b_19.lt
      have b_27 := b_20.below hb_25 b_20.lt
      have c_28 := c_21.trans (hb_25.mono c_21.size)
      have c_29 := c_22.trans (hb_25.mono c_22.size)
      clear b_19 b_20 c_21 c_22 hb_25
      go_wp2_with (first | (refine wpList_load_blk_w (by rfl) _ _ rfl (w.heap.size) rfl _ #[Value.int .i64 s.rev, Value.slice p1 s.jobs.length c1, Value.slice p2 s.nodes.length c2, Value.slice p3 s.leases.length c3] b_26 _ Tryd.underlying26 rfl state_size ?_) | (refine wpList_load_blk_w (by rfl) _ _ rfl (w_14.heap.size) rfl _ #[Value.int .i64 tt.rev, Value.slice q1 tt.jobs.length d1, Value.slice q2 tt.nodes.length d2, Value.slice q3 tt.leases.length d3] b_27 _ Tryd.underlying26 rfl state_size ?_))
      go_ret
      exact ⟨rfl, c_28⟩
    · have hne : (((encR (u : Int) s).2 : Int) != 0) = true := by rw [bne_iff_ne]; omega
      have HE2 := Lib.hid (HE'.out u)
      generalize encR (u : Int) s = ee at *
      clear h0 HE' HU'
      have hcmp : (v : Int) > (u : Int) := by omega
      go_enter Tryd.func12, Tryd.ntmps12
      go_wp2_with fail
      generalize w.alloc _ = W_1 at *
      refine (upped_any _ (HT.out.below hb0)).mono ?_
      rintro e w_2 ⟨rfl, hb_3⟩
      have b_4 := bx0.below hb_3 bx0.lt
      have c_5 := hb0.trans (hb_3.mono hb0.size)
      clear bx0 hb0 hb_3
      go_wp2_with (first | (refine wpList_load_blk_w (by rfl) _ _ rfl (w.heap.size) rfl _ #[Value.int .i64 s.rev, Value.slice p1 s.jobs.length c1, Value.slice p2 s.nodes.length c2, Value.slice p3 s.leases.length c3] b_4 _ Tryd.underlying26 rfl state_size ?_))
      refine (HR.out _).mono ?_
      rintro e w' ⟨rfl, rfl⟩
      go_wp2_with (first | (refine wpList_load_blk_w (by rfl) _ _ rfl (w.heap.size) rfl _ #[Value.int .i64 s.rev, Value.slice p1 s.jobs.length c1, Value.slice p2 s.nodes.length c2, Value.slice p3 s.leases.length c3] b_4 _ Tryd.underlying26 rfl state_size ?_))
      refine (HR2.out _).mono ?_
      rintro e w' ⟨rfl, rfl⟩
      go_wp2_with (first | (refine wpList_load_blk_w (by rfl) _ _ rfl (w.heap.size) rfl _ #[Value.int .i64 s.rev, Value.slice p1 s.jobs.length c1, Value.slice p2 s.nodes.length c2, Value.slice p3 s.leases.length c3] b_4 _ Tryd.underlying26 rfl state_size ?_))
      refine (HE2.out _ c_5).mono ?_
      rintro e w_6 ⟨rfl, hb_7⟩
      have b_8 := b_4.below hb_7 b_4.lt
      have c_9 := c_5.trans (hb_7.mono c_5.size)
      clear b_4 c_5 hb_7
      go_wp2_with (first | (refine wpList_load_blk_w (by rfl) _ _ rfl (w.heap.size) rfl _ #[Value.int .i64 s.rev, Value.slice p1 s.jobs.length c1, Value.slice p2 s.nodes.length c2, Value.slice p3 s.leases.length c3] b_8 _ Tryd.underlying26 rfl state_size ?_))
      go_ret
      exact ⟨rfl, c_9⟩
  · by_cases h0 : (encR (v : Int) s).2 = 0
    · have hf := encR_fits h0
      obtain ⟨h1, hok, hc, hvv⟩ := encR_ok h0
      have hF := (fine_iff s).1 hc
      have hl := encS_len hok
      have hdec := decT_enc hok hc hvv
      have hFt := hF.upTo v (u - v)
      have hft : fitsB (upTo s v (u - v)) (u : Int) = true := by have := fits_upTo v (u - v) hf (by omega) (by omega); rwa [show ((v : Int) + ((u - v : Nat) : Int)) = (u : Int) by omega] at this
      have het := encR_fine hFt hft (by omega)
      have hub : upBR (encS (v : Int) s) (v : Int) (u : Int) = (encS (u : Int) (upTo s v (u - v)), 0) := by
        unfold upBR
        rw [decide_eq_true (show 1 ≤ (v : Int) ∧ (v : Int) ≤ (u : Int) ∧ (u : Int) ≤ 3 by omega), if_neg (by simp), hdec, if_neg (by simp), show ((v : Int)).toNat = v by omega, show ((u : Int) - (v : Int)).toNat = u - v by omega, het]
      have hup := upR_of (a := (v : Int)) (b := (u : Int)) (by omega) hF hf
      rw [show ((v : Int)).toNat = v by omega, show ((u : Int) - (v : Int)).toNat = u - v by omega] at hup
      have he := HE'.out v
      rw [h1] at he
      have HE2 := Lib.hid he
      have HU2 := Lib.hid (HU'.out v u)
      have HUB := Lib.hid hub
      have HUP := Lib.hid hup
      have HET := Lib.hid het
      have HSU := Lib.hid hFt.sz
      generalize encS (v : Int) s = out at *
      generalize encS (u : Int) (upTo s v (u - v)) = out3 at *
      generalize upTo s v (u - v) = tt at *
      have hsz : (bstr out).size ≤ 20000 := by rw [bstr_size]; omega
      clear h0 hf h1 hok hc hvv hF hl hdec hFt hft het hub hup he HE' HU'
      have HO := Lib.hid (bstr_list out)
      have HET2 : Hid (bstr (encR (u : Int) tt).1 = bstr out3 ∧ (encR (u : Int) tt).2 = 0) := Lib.hid ⟨by rw [HET.out], by rw [HET.out]⟩
      clear HET
      generalize bstr out = so at *
      generalize hso3 : bstr out3 = so3 at *
      have HS3 := Lib.hid hso3
      clear hso3
      have hcmp : ¬ (v : Int) > (u : Int) := by omega
      go_enter Tryd.func12, Tryd.ntmps12
      go_wp2_with fail
      generalize w.alloc _ = W_1 at *
      refine (upped_any _ (HT.out.below hb0)).mono ?_
      rintro e w_2 ⟨rfl, hb_3⟩
      have b_4 := bx0.below hb_3 bx0.lt
      have c_5 := hb0.trans (hb_3.mono hb0.size)
      clear bx0 hb0 hb_3
      go_wp2_with (first | (refine wpList_load_blk_w (by rfl) _ _ rfl (w.heap.size) rfl _ #[Value.int .i64 s.rev, Value.slice p1 s.jobs.length c1, Value.slice p2 s.nodes.length c2, Value.slice p3 s.leases.length c3] b_4 _ Tryd.underlying26 rfl state_size ?_))
      refine (HR.out _).mono ?_
      rintro e w' ⟨rfl, rfl⟩
      go_wp2_with (first | (refine wpList_load_blk_w (by rfl) _ _ rfl (w.heap.size) rfl _ #[Value.int .i64 s.rev, Value.slice p1 s.jobs.length c1, Value.slice p2 s.nodes.length c2, Value.slice p3 s.leases.length c3] b_4 _ Tryd.underlying26 rfl state_size ?_))
      refine (HR2.out _).mono ?_
      rintro e w' ⟨rfl, rfl⟩
      go_wp2_with (first | (refine wpList_load_blk_w (by rfl) _ _ rfl (w.heap.size) rfl _ #[Value.int .i64 s.rev, Value.slice p1 s.jobs.length c1, Value.slice p2 s.nodes.length c2, Value.slice p3 s.leases.length c3] b_4 _ Tryd.underlying26 rfl state_size ?_))
      refine (HE2.out _ c_5).mono ?_
      rintro e w_6 ⟨rfl, hb_7⟩
      have b_8 := b_4.below hb_7 b_4.lt
      have c_9 := c_5.trans (hb_7.mono c_5.size)
      clear b_4 c_5 hb_7
      go_wp2_with (first | (refine wpList_load_blk_w (by rfl) _ _ rfl (w.heap.size) rfl _ #[Value.int .i64 s.rev, Value.slice p1 s.jobs.length c1, Value.slice p2 s.nodes.length c2, Value.slice p3 s.leases.length c3] b_8 _ Tryd.underlying26 rfl state_size ?_))
      have hb := upBytes_any so (v : Int) (u : Int) _ (Nat.le_trans hsz (by decide)) (HT.out.below c_9)
      rw [HO.out, HUB.out, HS3.out] at hb
      have HB1 := Lib.hid hb
      clear hb
      refine (HB1.out).mono ?_
      rintro e w_10 ⟨rfl, hb_11⟩
      have b_12 := b_8.below hb_11 b_8.lt
      have c_13 := c_9.trans (hb_11.mono c_9.size)
      clear b_8 c_9 hb_11
      go_wp2_with (first | (refine wpList_load_blk_w (by rfl) _ _ rfl (w.heap.size) rfl _ #[Value.int .i64 s.rev, Value.slice p1 s.jobs.length c1, Value.slice p2 s.nodes.length c2, Value.slice p3 s.leases.length c3] b_12 _ Tryd.underlying26 rfl state_size ?_))
      refine (HU2.out _ c_13).mono ?_
      rintro e w_14 ⟨t, er, q1, q2, q3, d1, d2, d3, rfl, hmt, hb_15, hd⟩
      rw [HUP.out] at hd
      injection hd with h1 h2
      subst h1 h2
      have b_16 := b_12.below hb_15 b_12.lt
      have c_17 := c_13.trans (hb_15.mono c_13.size)
      clear b_12 c_13 hb_15
      have k_18 := Below.refl w_14.heap.size w_14
      have HMU := Lib.hid hmt
      clear hmt
      have b_19 := b_16.alloc (.cells #[Value.int .i64 tt.rev, Value.slice q1 tt.jobs.length d1, Value.slice q2 tt.nodes.length d2, Value.slice q3 tt.leases.length d3] 26)
      have b_20 := Blk.new w_14 26 #[Value.int .i64 tt.rev, Value.slice q1 tt.jobs.length d1, Value.slice q2 tt.nodes.length d2, Value.slice q3 tt.leases.length d3]
      have c_21 := c_17.alloc c_17.size (.cells #[Value.int .i64 tt.rev, Value.slice q1 tt.jobs.length d1, Value.slice q2 tt.nodes.length d2, Value.slice q3 tt.leases.length d3] 26)
      have c_22 := k_18.alloc k_18.size (.cells #[Value.int .i64 tt.rev, Value.slice q1 tt.jobs.length d1, Value.slice q2 tt.nodes.length d2, Value.slice q3 tt.leases.length d3] 26)
      clear b_16 c_17 k_18
      go_wp2_with (first | (refine wpList_store_new rfl _ _ _ rfl rfl 26 _ #[Value.int .i64 tt.rev, Value.slice q1 tt.jobs.length d1, Value.slice q2 tt.nodes.length d2, Value.slice q3 tt.leases.length d3] rfl state_size rfl (one_st4 _ _ _ _ _ _ _ _ _ _) ?_) | (refine wpList_load_blk_w (by rfl) _ _ rfl (w.heap.size) rfl _ #[Value.int .i64 s.rev, Value.slice p1 s.jobs.length c1, Value.slice p2 s.nodes.length c2, Value.slice p3 s.leases.length c3] b_19 _ Tryd.underlying26 rfl state_size ?_) | (refine wpList_load_blk_w (by rfl) _ _ rfl (w_14.heap.size) rfl _ #[Value.int .i64 tt.rev, Value.slice q1 tt.jobs.length d1, Value.slice q2 tt.nodes.length d2, Value.slice q3 tt.leases.length d3] b_20 _ Tryd.underlying26 rfl state_size ?_))
      generalize w_14.alloc _ = W_23 at *
      have he := encode_state tt (u : Int) q1 q2 q3 d1 d2 d3 _ ((HMU.out.below c_22).more c_22.size) HSU.out (HT.out.below c_21)
      rw [HET2.out.1, HET2.out.2] at he
      have HE3 := Lib.hid he
      clear he
      refine (HE3.out).mono ?_
      rintro e w_24 ⟨rfl, hb_25⟩
      have b_26 := b_19.below hb_25 b_19.lt
      have b_27 := b_20.below hb_25 b_20.lt
      have c_28 := c_21.trans (hb_25.mono c_21.size)
      have c_29 := c_22.trans (hb_25.mono c_22.size)
      clear b_19 b_20 c_21 c_22 hb_25
      go_wp2_with (first | (refine wpList_load_blk_w (by rfl) _ _ rfl (w.heap.size) rfl _ #[Value.int .i64 s.rev, Value.slice p1 s.jobs.length c1, Value.slice p2 s.nodes.length c2, Value.slice p3 s.leases.length c3] b_26 _ Tryd.underlying26 rfl state_size ?_) | (refine wpList_load_blk_w (by rfl) _ _ rfl (w_14.heap.size) rfl _ #[Value.int .i64 tt.rev, Value.slice q1 tt.jobs.length d1, Value.slice q2 tt.nodes.length d2, Value.slice q3 tt.leases.length d3] b_27 _ Tryd.underlying26 rfl state_size ?_))
      go_ret
      exact ⟨rfl, c_28⟩
    · have hne : (((encR (v : Int) s).2 : Int) != 0) = true := by rw [bne_iff_ne]; omega
      have HE2 := Lib.hid (HE'.out v)
      generalize encR (v : Int) s = ee at *
      clear h0 HE' HU'
      have hcmp : ¬ (v : Int) > (u : Int) := by omega
      go_enter Tryd.func12, Tryd.ntmps12
      go_wp2_with fail
      generalize w.alloc _ = W_1 at *
      refine (upped_any _ (HT.out.below hb0)).mono ?_
      rintro e w_2 ⟨rfl, hb_3⟩
      have b_4 := bx0.below hb_3 bx0.lt
      have c_5 := hb0.trans (hb_3.mono hb0.size)
      clear bx0 hb0 hb_3
      go_wp2_with (first | (refine wpList_load_blk_w (by rfl) _ _ rfl (w.heap.size) rfl _ #[Value.int .i64 s.rev, Value.slice p1 s.jobs.length c1, Value.slice p2 s.nodes.length c2, Value.slice p3 s.leases.length c3] b_4 _ Tryd.underlying26 rfl state_size ?_))
      refine (HR.out _).mono ?_
      rintro e w' ⟨rfl, rfl⟩
      go_wp2_with (first | (refine wpList_load_blk_w (by rfl) _ _ rfl (w.heap.size) rfl _ #[Value.int .i64 s.rev, Value.slice p1 s.jobs.length c1, Value.slice p2 s.nodes.length c2, Value.slice p3 s.leases.length c3] b_4 _ Tryd.underlying26 rfl state_size ?_))
      refine (HR2.out _).mono ?_
      rintro e w' ⟨rfl, rfl⟩
      go_wp2_with (first | (refine wpList_load_blk_w (by rfl) _ _ rfl (w.heap.size) rfl _ #[Value.int .i64 s.rev, Value.slice p1 s.jobs.length c1, Value.slice p2 s.nodes.length c2, Value.slice p3 s.leases.length c3] b_4 _ Tryd.underlying26 rfl state_size ?_))
      refine (HE2.out _ c_5).mono ?_
      rintro e w_6 ⟨rfl, hb_7⟩
      have b_8 := b_4.below hb_7 b_4.lt
      have c_9 := c_5.trans (hb_7.mono c_5.size)
      clear b_4 c_5 hb_7
      go_wp2_with (first | (refine wpList_load_blk_w (by rfl) _ _ rfl (w.heap.size) rfl _ #[Value.int .i64 s.rev, Value.slice p1 s.jobs.length c1, Value.slice p2 s.nodes.length c2, Value.slice p3 s.leases.length c3] b_8 _ Tryd.underlying26 rfl state_size ?_))
      go_ret
      exact ⟨rfl, c_9⟩

theorem own : ownKnob Tryd.prog.godebug = none := by kernel_rfl
theorem laid : laidOutB Tryd.prog = true := by kernel_rfl
set_option maxRecDepth 100000 in
theorem contract (H : Type) (enc : TypeId × Value → H) (W : World) (base : Nat) (args : Array Value) (ds gs : List (DataW H)) (before : List MemPlace)
    (hval0 : ∀ (j : Nat) t v, Tryd.f12.params[j]? = some t → args[j]? = some v → Value.okWide Tryd.prog W .any base t v)
    (hW : DataW.Whole enc Tryd.prog Tryd.f12.params.toList Rows.upWiresSpec.vars false W args.toList ds gs before)
    (hsz0 : (DataW.weightsEach Tryd.prog (Tryd.f12.params.toList ++ Rows.upWiresSpec.plain.varTypes Tryd.prog) (ds ++ gs)).all (· ≤ reachBytes) = true)
    (hT : Tabs W) :
    Calls Tryd.prog 12 args W fun e W' => ∃ v, e = .returned v ∧ Rows.upWiresSpec.post enc Tryd.prog Tryd.f12 false true false false W args v W' := by
  have hval : ∀ (j : Nat) t v, Tryd.f12.params[j]? = some t → args[j]? = some v → Value.okWide Tryd.prog W .any base t v := hval0
  have hsz : (DataW.weightsEach Tryd.prog (Tryd.f12.params.toList ++ Rows.upWiresSpec.plain.varTypes Tryd.prog) (ds ++ gs)).all (· ≤ reachBytes) = true := hsz0
  have hlt : ∀ x ∈ before, x.block < W.heap.size := fun x hx => hW.lt x hx
  have hW' := hW
  obtain ⟨p, q, hA0, hV, rfl, hfz, hnd⟩ := hW
  have hA : DataW.TrodAll enc Tryd.prog W 0 (fun _ => true) true Tryd.f12.params.toList args.toList ds p := hA0
  rw [Tryd.params12] at hA hval hsz
  obtain ⟨v0, vs0, d0, ds0, p0, q0, hargs, rfl, rfl, h0, r0⟩ := trodAll_cons hA
  obtain ⟨v1, vs1, d1, ds1, p1, q1, rfl, rfl, rfl, h1, r1⟩ := trodAll_cons r0
  obtain ⟨v2, vs2, d2, ds2, p2, q2, rfl, rfl, rfl, h2, r2⟩ := trodAll_cons r1
  obtain ⟨rfl, rfl, rfl⟩ := trodAll_nil r2
  obtain rfl : args = #[v0, v1, v2] := by cases args; simp_all
  obtain ⟨rfl, rfl⟩ := trodVars_none hV
  obtain ⟨s0, pj0, pn0, pl0, cj0, cn0, cl0, rfl, hm0, hk0⟩ := open_state (hval 0 26 v0 rfl rfl) h0 hsz (j := 0) rfl rfl
  obtain ⟨a1, rfl, rfl, rfl, w1⟩ := open_int Tryd.underlying3 (hval 1 3 v1 rfl rfl) h1
  have b1 := bounds_i64 w1
  obtain ⟨a2, rfl, rfl, rfl, w2⟩ := open_int Tryd.underlying3 (hval 2 3 v2 rfl rfl) h2
  have b2 := bounds_i64 w2
  refine (walk s0 pj0 pn0 pl0 cj0 cn0 cl0 W hm0 hk0 a1 b1.1 b1.2 a2 b2.1 b2.2 hT).mono fun e W' ⟨he, hb⟩ => ?_
  subst he
  exact ⟨_, rfl, law_post laid (by kernel_rfl) Tryd.underlying4 rfl rfl hW' rfl rfl rfl rfl hb⟩

theorem reads (os : Os) {H : Type} (enc : TypeId × Value → H) : ∃ places, DataW.whole enc Tryd.prog ((laidWorld os).forCall (fun _ _ => 0) ⟨#[], #[.agg #[.int .i64 0, .slice none 0 0, .slice none 0 0, .slice none 0 0], .int .i64 0, .int .i64 0], []⟩).memory Tryd.f12.params.toList Rows.upWiresSpec.vars false (#[.agg #[.int .i64 0, .slice none 0 0, .slice none 0 0, .slice none 0 0], .int .i64 0, .int .i64 0] : Array Value).toList 8 = some ([.agg [.lit (.int .i64 0), .nil, .nil, .nil], .lit (.int .i64 0), .lit (.int .i64 0)], [], places) :=
  ⟨[], by kernel_rfl⟩
set_option maxRecDepth 100000 in
theorem lifted (os : Os) (started : os.Started) (H : Type) (enc : TypeId × Value → H) (F : Stop.Interp) :
    ReturnsInHanded {} Tryd.checked os 12 .any ((OpenSpec.ofChange Rows.upWiresSpec).preRow enc Tryd.prog Tryd.f12 Rows.upWiresRow.domain false Rows.upWiresRow.laid) (((OpenSpec.ofChange Rows.upWiresSpec).at F).post enc Tryd.prog Tryd.f12 false true false false) := by
  obtain ⟨places, hx⟩ := reads os enc
  refine returnsInHanded_of_row (C := Tryd.checked) (s := (OpenSpec.ofChange Rows.upWiresSpec)) own started (by kernel_rfl) Tryd.func12
    (witness_row_atRef (enc := enc) (C := Tryd.checked) false (laidWorld os) #[.agg #[.int .i64 0, .slice none 0 0, .slice none 0 0, .slice none 0 0], .int .i64 0, .int .i64 0] rfl (by kernel_rfl) (by kernel_rfl) (by kernel_rfl)
      (OpenSpec.preRow_of_cond 8 hx (by kernel_rfl) (fun k hk => by cases hk) (by kernel_rfl) (laid_met os _))) ?_
  intro W base args ds gs before hval0 hW _ hcond hsz0 hL _ _
  exact contract H enc W base args ds gs before hval0 hW hsz0 (tabs_of_laid hL)

theorem said : Rows.UpWiresSaid :=
  OpenClaim.holds_of_cond 12 Tryd.f12 rfl rfl rfl rfl rfl rfl rfl ⟨rfl, rfl, rfl, rfl, rfl⟩ rfl rfl rfl rfl rfl (by kernel_rfl) Tryd.func12 (by kernel_rfl)
    (of_decide_eq_true (by kernel_rfl)) (by unfold Func.isWrapper; first | (rw [if_pos (by decide +kernel)]; kernel_rfl) | (rw [if_neg (by decide +kernel)]; exact ⟨rfl, rfl⟩))
    (fun os started H enc _ F => by rw [OpenClaim.pre_eq_preRow]; exact lifted os started H enc F)

/-- No parameter wants a stand-in; the program's own looks are off. -/
theorem plain (f : FuncId) (fn : Func) (hf : Tryd.pinned.checked.prog.funcNamed "bracken/brackenkeep.UpWires" = some f) (hfn : Tryd.pinned.checked.prog.funcs[f]? = some fn) :
    false = Tryd.pinned.checked.prog.looks [] ∧ ∀ (j : Nat) t, fn.params[j]? = some t → Tryd.pinned.checked.prog.wantsStandIn t = false := by
  obtain rfl : f = 12 := Option.some.inj ((show Tryd.prog.funcNamed "bracken/brackenkeep.UpWires" = some 12 by kernel_rfl).symm.trans hf) |>.symm
  obtain rfl : fn = Tryd.f12 := (Option.some.inj (Tryd.func12.symm.trans hfn)).symm
  refine ⟨by kernel_rfl, fun j t ht => ?_⟩
  rw [Tryd.params12] at ht
  have hm := Array.mem_of_getElem? ht
  have hall : (#[26, 3, 3] : Array TypeId).all (fun t => !Tryd.prog.wantsStandIn t) = true := by kernel_rfl
  have := Array.all_eq_true_iff_forall_mem.1 hall t (by simpa using hm)
  show Tryd.prog.wantsStandIn t = false
  simpa using this

/-- The statement. -/
theorem proved : Rows.UpWiresCardSaid :=
  Claim7.holds_tied_plain_at .later [] _ _ _ _ said (fun _ h => by cases h) (by kernel_rfl) (fun _ h => by cases h) upWires_row_tie rfl ⟨rfl, rfl⟩ (by kernel_rfl) rfl plain (by kernel_rfl)
#print axioms proved
end Go.Proofs.YtejdhcipmkaboaaDoor.upWires
