/-
  The law UpRound of package brackenkeep: for every input it answers true.
-/
import Derived.Test.YtejdhcipmkaboaaDoorRows
import Derived.Test.YtejdhcipmkaboaaDoorPkBase
import Derived.Test.YtejdhcipmkaboaaDoorPkDown
import Derived.Test.YtejdhcipmkaboaaDoorPkUp
import Derived.Test.YtejdhcipmkaboaaDoorPkUpB
import Derived.Test.YtejdhcipmkaboaaDoorPkSame
import Derived.Test.YtejdhcipmkaboaaDoorPkStateB
set_option linter.unusedVariables false
set_option linter.unusedSimpArgs false
namespace Go.Proofs.YtejdhcipmkaboaaDoor.upRound
open Go.ChangeShapes Go.WideShapes Go.ChangeAt Go.RowKit Go.Joins
open Go.ChangeMaps (open_string)
theorem fitsR_fineE {v : Int} {s : St} (hc : checkE s = 0) (hv : 1 ≤ v ∧ v ≤ 3) : fitsR s v = (fitsB s v, 0) := by
  rw [fitsR_in s v hv, if_neg (by rw [hc]; simp)]
theorem encR_fits {v : Int} {s : St} (h : (encR v s).2 = 0) : fitsB s v = true := by
  obtain ⟨_, _, hc, hv⟩ := encR_ok h
  unfold encR at h
  rw [fitsR_fineE hc hv] at h
  cases hf : fitsB s v
  · rw [hf] at h; simp at h
  · rfl
theorem encR_fine {v : Int} {s : St} (h : Fine s) (hf : fitsB s v = true) (hv : 1 ≤ v ∧ v ≤ 3) : encR v s = (encS v s, 0) := by
  unfold encR
  rw [fitsR_fineE ((fine_iff s).2 h) hv, hf]
  simp
set_option maxHeartbeats 8000000 in
set_option maxRecDepth 100000 in
theorem walk (s : St) (p1 p2 p3 : Option Addr) (c1 c2 c3 : Nat) (w : World) (hm : StM w w.heap.size p1 p2 p3 s) (hk : StOk s) (n : Int) (n1 : -9223372036854775808 ≤ n) (n2 : n ≤ 9223372036854775807) (hT : Tabs w) :
    Calls Tryd.prog 13 #[.agg #[.int .i64 s.rev, .slice p1 s.jobs.length c1, .slice p2 s.nodes.length c2, .slice p3 s.leases.length c3], .int .i64 n] w fun e w' => e = .returned (.bool true) ∧ Below w.heap.size w w' := by
  have hb0 : Below w.heap.size w (w.alloc (.cells #[Value.int .i64 s.rev, Value.slice p1 s.jobs.length c1, Value.slice p2 s.nodes.length c2, Value.slice p3 s.leases.length c3] 26)) := (Below.refl _ _).alloc (Nat.le_refl _) _
  have bx0 := Blk.new w 26 #[Value.int .i64 s.rev, Value.slice p1 s.jobs.length c1, Value.slice p2 s.nodes.length c2, Value.slice p3 s.leases.length c3]
  have hz := hk.sz
  have h30 := Int.emod_nonneg n (show (3 : Int) ≠ 0 by decide)
  have h33 := Int.emod_lt_of_pos n (show (0 : Int) < 3 by decide)
  have HR := Lib.hid (fun (W : World) => rest_any n 3 W (by decide) (by decide))
  generalize n % 3 = m at *
  obtain ⟨v, rfl⟩ : ∃ v : Nat, m = (v : Int) - 1 := ⟨(m + 1).toNat, by omega⟩
  have hv : 1 ≤ v ∧ v ≤ 3 := by omega
  have HE := Lib.hid (fun (W : World) (hW : Below w.heap.size w W) => encode_state s (v : Int) p1 p2 p3 c1 c2 c3 W ((hm.below hW).more hW.size) hz (hT.below hW))
  have HM := Lib.hid hm
  have HZ := Lib.hid hz
  have HT := Lib.hid hT
  have hzs := zero_state_lit
  clear hm hk hz hT n1 n2
  by_cases h0 : (encR (v : Int) s).2 = 0
  · have hf := encR_fits h0
    obtain ⟨h1, hok, hc, hvv⟩ := encR_ok h0
    have hF := (fine_iff s).1 hc
    have hl := encS_len hok
    have hdec := decT_enc hok hc hvv
    have hFu := hF.upTo v (3 - v)
    have hfu := fits3 (upTo s v (3 - v))
    have heu := encR_fine (v := 3) hFu hfu (by decide)
    obtain ⟨_, hok3, hc3, _⟩ := encR_ok (v := 3) (s := upTo s v (3 - v)) (by rw [heu])
    have hl3 := encS_len hok3
    have hdec3 := decT_enc hok3 hc3 (by decide)
    have hub : upBR (encS (v : Int) s) (v : Int) 3 = (encS 3 (upTo s v (3 - v)), 0) := by
      unfold upBR
      rw [decide_eq_true (show 1 ≤ (v : Int) ∧ (v : Int) ≤ 3 ∧ (3 : Int) ≤ 3 from ⟨hvv.1, hvv.2, by decide⟩), if_neg (by simp), hdec, if_neg (by simp), show ((v : Int)).toNat = v by omega, show ((3 : Int) - (v : Int)).toNat = 3 - v by omega, heu]
    have hd1 := down_upTo (s := s) v (3 - v) hf hv.1 (by omega)
    have hdn := downR_of (k := (v : Int)) hFu hvv
    have hlast : upLast (upTo s v (3 - v)) (v : Int) = upTo s v (3 - v) := by unfold upLast; rw [hd1, show ((v : Int)).toNat = v by omega, show ((3 : Int) - (v : Int)).toNat = 3 - v by omega]
    rw [hd1, downB_iff, decide_eq_true hlast] at hdn
    have he := HE.out
    rw [h1] at he
    have HE2 := Lib.hid he
    have HUB := Lib.hid hub
    have HEQ := Lib.hid h1
    have HD3 := Lib.hid hdec3
    have HDN := Lib.hid hdn
    have HSU := Lib.hid hFu.sz
    generalize encS (v : Int) s = out at *
    generalize encS 3 (upTo s v (3 - v)) = out3 at *
    generalize upTo s v (3 - v) = u at *
    have hsz : (bstr out).size ≤ 20000 := by rw [bstr_size]; omega
    have hsz3 : (bstr out3).size ≤ 20000 := by rw [bstr_size]; omega
    clear h0 hf h1 hok hc hvv hF hl hdec hFu hfu heu hok3 hc3 hl3 hdec3 hub hd1 hdn hlast he HE
    have HO := Lib.hid (bstr_list out)
    have HO3 := Lib.hid (bstr_list out3)
    have HEQ2 : Hid (bstr (encR (v : Int) s).1 = bstr out ∧ (encR (v : Int) s).2 = 0) := Lib.hid ⟨by rw [HEQ.out], by rw [HEQ.out]⟩
    clear HEQ
    generalize bstr out = so at *
    generalize hso3 : bstr out3 = so3 at *
    have HS3 := Lib.hid hso3
    clear hso3
    go_enter Tryd.func13, Tryd.ntmps13
    go_wp2_with fail
    generalize w.alloc _ = W_1 at *
    refine (upped_any _ (HT.out.below hb0)).mono ?_
    rintro e w_2 ⟨rfl, hb_3⟩
    have b_4 := bx0.below hb_3 bx0.lt
    have c_5 := hb0.trans (hb_3.mono hb0.size)
    clear bx0 hb0 hb_3
    go_wp2_with (first | (refine wpList_load_blk_w (by rfl) _ _ rfl (w.heap.size) rfl _ #[Value.int .i64 s.rev, Value.slice p1 s.jobs.length c1, Value.slice p2 s.nodes.length c2, Value.slice p3 s.leases.length c3] b_4 _ Tryd.underlying26 rfl state_size ?_))
    refine (HR.out _).mono ?_
    rintro e w' ⟨rfl, rfl⟩
    go_wp2_with (first | (refine wpList_load_blk_w (by rfl) _ _ rfl (w.heap.size) rfl _ #[Value.int .i64 s.rev, Value.slice p1 s.jobs.length c1, Value.slice p2 s.nodes.length c2, Value.slice p3 s.leases.length c3] b_4 _ Tryd.underlying26 rfl state_size ?_))
    refine (HE2.out _ c_5).mono ?_
    rintro e w_6 ⟨rfl, hb_7⟩
    have b_8 := b_4.below hb_7 b_4.lt
    have c_9 := c_5.trans (hb_7.mono c_5.size)
    clear b_4 c_5 hb_7
    go_wp2_with (first | (refine wpList_load_blk_w (by rfl) _ _ rfl (w.heap.size) rfl _ #[Value.int .i64 s.rev, Value.slice p1 s.jobs.length c1, Value.slice p2 s.nodes.length c2, Value.slice p3 s.leases.length c3] b_8 _ Tryd.underlying26 rfl state_size ?_))
    have hb := upBytes_any so (v : Int) 3 _ (Nat.le_trans hsz (by decide)) (HT.out.below c_9)
    rw [HO.out, HUB.out, HS3.out] at hb
    have HB1 := Lib.hid hb
    clear hb
    refine (HB1.out).mono ?_
    rintro e w_10 ⟨rfl, hb_11⟩
    have b_12 := b_8.below hb_11 b_8.lt
    have c_13 := c_9.trans (hb_11.mono c_9.size)
    clear b_8 c_9 hb_11
    go_wp2_with (first | (refine wpList_load_blk_w (by rfl) _ _ rfl (w.heap.size) rfl _ #[Value.int .i64 s.rev, Value.slice p1 s.jobs.length c1, Value.slice p2 s.nodes.length c2, Value.slice p3 s.leases.length c3] b_12 _ Tryd.underlying26 rfl state_size ?_))
    refine (decode_state so3 3 _ (Nat.le_trans hsz3 (by decide)) (HT.out.below c_13)).mono ?_
    rintro e w_14 ⟨t, er, q1, q2, q3, d1, d2, d3, rfl, hmt, _, hb_15, hd⟩
    rw [HO3.out, HD3.out] at hd
    injection hd with h1 h2
    subst h1 h2
    have b_16 := b_12.below hb_15 b_12.lt
    have c_17 := c_13.trans (hb_15.mono c_13.size)
    clear b_12 c_13 hb_15
    have k_18 := Below.refl w_14.heap.size w_14
    have HMU := Lib.hid hmt
    clear hmt
    have b_19 := b_16.alloc (.cells #[Value.int .i64 u.rev, Value.slice q1 u.jobs.length d1, Value.slice q2 u.nodes.length d2, Value.slice q3 u.leases.length d3] 26)
    have b_20 := Blk.new w_14 26 #[Value.int .i64 u.rev, Value.slice q1 u.jobs.length d1, Value.slice q2 u.nodes.length d2, Value.slice q3 u.leases.length d3]
    have c_21 := c_17.alloc c_17.size (.cells #[Value.int .i64 u.rev, Value.slice q1 u.jobs.length d1, Value.slice q2 u.nodes.length d2, Value.slice q3 u.leases.length d3] 26)
    have c_22 := k_18.alloc k_18.size (.cells #[Value.int .i64 u.rev, Value.slice q1 u.jobs.length d1, Value.slice q2 u.nodes.length d2, Value.slice q3 u.leases.length d3] 26)
    clear b_16 c_17 k_18
    go_wp2_with (first | (refine wpList_store_new rfl _ _ _ rfl rfl 26 _ #[Value.int .i64 u.rev, Value.slice q1 u.jobs.length d1, Value.slice q2 u.nodes.length d2, Value.slice q3 u.leases.length d3] rfl state_size rfl (one_st4 _ _ _ _ _ _ _ _ _ _) ?_) | (refine wpList_load_blk_w (by rfl) _ _ rfl (w.heap.size) rfl _ #[Value.int .i64 s.rev, Value.slice p1 s.jobs.length c1, Value.slice p2 s.nodes.length c2, Value.slice p3 s.leases.length c3] b_19 _ Tryd.underlying26 rfl state_size ?_) | (refine wpList_load_blk_w (by rfl) _ _ rfl (w_14.heap.size) rfl _ #[Value.int .i64 u.rev, Value.slice q1 u.jobs.length d1, Value.slice q2 u.nodes.length d2, Value.slice q3 u.leases.length d3] b_20 _ Tryd.underlying26 rfl state_size ?_))
    generalize w_14.alloc _ = W_23 at *
    refine (upDown_any u (v : Int) q1 q2 q3 d1 d2 d3 _ ((HMU.out.below c_22).more c_22.size) HSU.out (HT.out.below c_21)).mono ?_
    rintro e w_24 ⟨t, is, er, r1, r2, r3, g1, g2, g3, rfl, hmt, hb_25, hd⟩
    rw [HDN.out] at hd
    injection hd with h1 h2
    injection h2 with h2 h3
    subst h1 h2 h3
    have b_26 := b_19.below hb_25 b_19.lt
    have b_27 := b_20.below hb_25 b_20.lt
    have c_28 := c_21.trans (hb_25.mono c_21.size)
    have c_29 := c_22.trans (hb_25.mono c_22.size)
    clear b_19 b_20 c_21 c_22 hb_25
    have k_30 := Below.refl w_24.heap.size w_24
    have HMD := Lib.hid hmt
    clear hmt
    have b_31 := b_26.alloc (.cells #[Value.int .i64 s.rev, Value.slice r1 s.jobs.length g1, Value.slice r2 s.nodes.length g2, Value.slice r3 s.leases.length g3] 26)
    have b_32 := b_27.alloc (.cells #[Value.int .i64 s.rev, Value.slice r1 s.jobs.length g1, Value.slice r2 s.nodes.length g2, Value.slice r3 s.leases.length g3] 26)
    have b_33 := Blk.new w_24 26 #[Value.int .i64 s.rev, Value.slice r1 s.jobs.length g1, Value.slice r2 s.nodes.length g2, Value.slice r3 s.leases.length g3]
    have c_34 := c_28.alloc c_28.size (.cells #[Value.int .i64 s.rev, Value.slice r1 s.jobs.length g1, Value.slice r2 s.nodes.length g2, Value.slice r3 s.leases.length g3] 26)
    have c_35 := c_29.alloc c_29.size (.cells #[Value.int .i64 s.rev, Value.slice r1 s.jobs.length g1, Value.slice r2 s.nodes.length g2, Value.slice r3 s.leases.length g3] 26)
    have c_36 := k_30.alloc k_30.size (.cells #[Value.int .i64 s.rev, Value.slice r1 s.jobs.length g1, Value.slice r2 s.nodes.length g2, Value.slice r3 s.leases.length g3] 26)
    clear b_26 b_27 c_28 c_29 k_30
    go_wp2_with (first | (refine wpList_store_new rfl _ _ _ rfl rfl 26 _ #[Value.int .i64 s.rev, Value.slice r1 s.jobs.length g1, Value.slice r2 s.nodes.length g2, Value.slice r3 s.leases.length g3] rfl state_size rfl (one_st4 _ _ _ _ _ _ _ _ _ _) ?_) | (refine wpList_load_blk_w (by rfl) _ _ rfl (w.heap.size) rfl _ #[Value.int .i64 s.rev, Value.slice p1 s.jobs.length c1, Value.slice p2 s.nodes.length c2, Value.slice p3 s.leases.length c3] b_31 _ Tryd.underlying26 rfl state_size ?_) | (refine wpList_load_blk_w (by rfl) _ _ rfl (w_14.heap.size) rfl _ #[Value.int .i64 u.rev, Value.slice q1 u.jobs.length d1, Value.slice q2 u.nodes.length d2, Value.slice q3 u.leases.length d3] b_32 _ Tryd.underlying26 rfl state_size ?_) | (refine wpList_load_blk_w (by rfl) _ _ rfl (w_24.heap.size) rfl _ #[Value.int .i64 s.rev, Value.slice r1 s.jobs.length g1, Value.slice r2 s.nodes.length g2, Value.slice r3 s.leases.length g3] b_33 _ Tryd.underlying26 rfl state_size ?_))
    generalize w_24.alloc _ = W_37 at *
    have he := encode_state s (v : Int) r1 r2 r3 g1 g2 g3 _ ((HMD.out.below c_36).more c_36.size) HZ.out (HT.out.below c_34)
    rw [HEQ2.out.1, HEQ2.out.2] at he
    have HE3 := Lib.hid he
    clear he
    refine (HE3.out).mono ?_
    rintro e w_38 ⟨rfl, hb_39⟩
    have b_40 := b_31.below hb_39 b_31.lt
    have b_41 := b_32.below hb_39 b_32.lt
    have b_42 := b_33.below hb_39 b_33.lt
    have c_43 := c_34.trans (hb_39.mono c_34.size)
    have c_44 := c_35.trans (hb_39.mono c_35.size)
    have c_45 := c_36.trans (hb_39.mono c_36.size)
    clear b_31 b_32 b_33 c_34 c_35 c_36 hb_39
    go_wp2_with (first | (refine wpList_load_blk_w (by rfl) _ _ rfl (w.heap.size) rfl _ #[Value.int .i64 s.rev, Value.slice p1 s.jobs.length c1, Value.slice p2 s.nodes.length c2, Value.slice p3 s.leases.length c3] b_40 _ Tryd.underlying26 rfl state_size ?_) | (refine wpList_load_blk_w (by rfl) _ _ rfl (w_14.heap.size) rfl _ #[Value.int .i64 u.rev, Value.slice q1 u.jobs.length d1, Value.slice q2 u.nodes.length d2, Value.slice q3 u.leases.length d3] b_41 _ Tryd.underlying26 rfl state_size ?_) | (refine wpList_load_blk_w (by rfl) _ _ rfl (w_24.heap.size) rfl _ #[Value.int .i64 s.rev, Value.slice r1 s.jobs.length g1, Value.slice r2 s.nodes.length g2, Value.slice r3 s.leases.length g3] b_42 _ Tryd.underlying26 rfl state_size ?_))
    go_ret
    exact ⟨rfl, c_43⟩
  · have hne : (((encR (v : Int) s).2 : Int) != 0) = true := by rw [bne_iff_ne]; omega
    generalize encR (v : Int) s = ee at *
    clear h0
    go_enter Tryd.func13, Tryd.ntmps13
    go_wp2_with fail
    generalize w.alloc _ = W_1 at *
    refine (upped_any _ (HT.out.below hb0)).mono ?_
    rintro e w_2 ⟨rfl, hb_3⟩
    have b_4 := bx0.below hb_3 bx0.lt
    have c_5 := hb0.trans (hb_3.mono hb0.size)
    clear bx0 hb0 hb_3
    go_wp2_with (first | (refine wpList_load_blk_w (by rfl) _ _ rfl (w.heap.size) rfl _ #[Value.int .i64 s.rev, Value.slice p1 s.jobs.length c1, Value.slice p2 s.nodes.length c2, Value.slice p3 s.leases.length c3] b_4 _ Tryd.underlying26 rfl state_size ?_))
    refine (HR.out _).mono ?_
    rintro e w' ⟨rfl, rfl⟩
    go_wp2_with (first | (refine wpList_load_blk_w (by rfl) _ _ rfl (w.heap.size) rfl _ #[Value.int .i64 s.rev, Value.slice p1 s.jobs.length c1, Value.slice p2 s.nodes.length c2, Value.slice p3 s.leases.length c3] b_4 _ Tryd.underlying26 rfl state_size ?_))
    refine (HE.out _ c_5).mono ?_
    rintro e w_6 ⟨rfl, hb_7⟩
    have b_8 := b_4.below hb_7 b_4.lt
    have c_9 := c_5.trans (hb_7.mono c_5.size)
    clear b_4 c_5 hb_7
    go_wp2_with (first | (refine wpList_load_blk_w (by rfl) _ _ rfl (w.heap.size) rfl _ #[Value.int .i64 s.rev, Value.slice p1 s.jobs.length c1, Value.slice p2 s.nodes.length c2, Value.slice p3 s.leases.length c3] b_8 _ Tryd.underlying26 rfl state_size ?_))
    go_ret
    exact ⟨rfl, c_9⟩

theorem own : ownKnob Tryd.prog.godebug = none := by kernel_rfl
theorem laid : laidOutB Tryd.prog = true := by kernel_rfl
set_option maxRecDepth 100000 in
theorem contract (H : Type) (enc : TypeId × Value → H) (W : World) (base : Nat) (args : Array Value) (ds gs : List (DataW H)) (before : List MemPlace)
    (hval0 : ∀ (j : Nat) t v, Tryd.f13.params[j]? = some t → args[j]? = some v → Value.okWide Tryd.prog W .any base t v)
    (hW : DataW.Whole enc Tryd.prog Tryd.f13.params.toList Rows.upRoundSpec.vars false W args.toList ds gs before)
    (hsz0 : (DataW.weightsEach Tryd.prog (Tryd.f13.params.toList ++ Rows.upRoundSpec.plain.varTypes Tryd.prog) (ds ++ gs)).all (· ≤ reachBytes) = true)
    (hT : Tabs W) :
    Calls Tryd.prog 13 args W fun e W' => ∃ v, e = .returned v ∧ Rows.upRoundSpec.post enc Tryd.prog Tryd.f13 false true false false W args v W' := by
  have hval : ∀ (j : Nat) t v, Tryd.f13.params[j]? = some t → args[j]? = some v → Value.okWide Tryd.prog W .any base t v := hval0
  have hsz : (DataW.weightsEach Tryd.prog (Tryd.f13.params.toList ++ Rows.upRoundSpec.plain.varTypes Tryd.prog) (ds ++ gs)).all (· ≤ reachBytes) = true := hsz0
  have hlt : ∀ x ∈ before, x.block < W.heap.size := fun x hx => hW.lt x hx
  have hW' := hW
  obtain ⟨p, q, hA0, hV, rfl, hfz, hnd⟩ := hW
  have hA : DataW.TrodAll enc Tryd.prog W 0 (fun _ => true) true Tryd.f13.params.toList args.toList ds p := hA0
  rw [Tryd.params13] at hA hval hsz
  obtain ⟨v0, vs0, d0, ds0, p0, q0, hargs, rfl, rfl, h0, r0⟩ := trodAll_cons hA
  obtain ⟨v1, vs1, d1, ds1, p1, q1, rfl, rfl, rfl, h1, r1⟩ := trodAll_cons r0
  obtain ⟨rfl, rfl, rfl⟩ := trodAll_nil r1
  obtain rfl : args = #[v0, v1] := by cases args; simp_all
  obtain ⟨rfl, rfl⟩ := trodVars_none hV
  obtain ⟨s0, pj0, pn0, pl0, cj0, cn0, cl0, rfl, hm0, hk0⟩ := open_state (hval 0 26 v0 rfl rfl) h0 hsz (j := 0) rfl rfl
  obtain ⟨a1, rfl, rfl, rfl, w1⟩ := open_int Tryd.underlying3 (hval 1 3 v1 rfl rfl) h1
  have b1 := bounds_i64 w1
  refine (walk s0 pj0 pn0 pl0 cj0 cn0 cl0 W hm0 hk0 a1 b1.1 b1.2 hT).mono fun e W' ⟨he, hb⟩ => ?_
  subst he
  exact ⟨_, rfl, law_post laid (by kernel_rfl) Tryd.underlying4 rfl rfl hW' rfl rfl rfl rfl hb⟩

theorem reads (os : Os) {H : Type} (enc : TypeId × Value → H) : ∃ places, DataW.whole enc Tryd.prog ((laidWorld os).forCall (fun _ _ => 0) ⟨#[], #[.agg #[.int .i64 0, .slice none 0 0, .slice none 0 0, .slice none 0 0], .int .i64 0], []⟩).memory Tryd.f13.params.toList Rows.upRoundSpec.vars false (#[.agg #[.int .i64 0, .slice none 0 0, .slice none 0 0, .slice none 0 0], .int .i64 0] : Array Value).toList 8 = some ([.agg [.lit (.int .i64 0), .nil, .nil, .nil], .lit (.int .i64 0)], [], places) :=
  ⟨[], by kernel_rfl⟩
set_option maxRecDepth 100000 in
theorem lifted (os : Os) (started : os.Started) (H : Type) (enc : TypeId × Value → H) (F : Stop.Interp) :
    ReturnsInHanded {} Tryd.checked os 13 .any ((OpenSpec.ofChange Rows.upRoundSpec).preRow enc Tryd.prog Tryd.f13 Rows.upRoundRow.domain false Rows.upRoundRow.laid) (((OpenSpec.ofChange Rows.upRoundSpec).at F).post enc Tryd.prog Tryd.f13 false true false false) := by
  obtain ⟨places, hx⟩ := reads os enc
  refine returnsInHanded_of_row (C := Tryd.checked) (s := (OpenSpec.ofChange Rows.upRoundSpec)) own started (by kernel_rfl) Tryd.func13
    (witness_row_atRef (enc := enc) (C := Tryd.checked) false (laidWorld os) #[.agg #[.int .i64 0, .slice none 0 0, .slice none 0 0, .slice none 0 0], .int .i64 0] rfl (by kernel_rfl) (by kernel_rfl) (by kernel_rfl)
      (OpenSpec.preRow_of_cond 8 hx (by kernel_rfl) (fun k hk => by cases hk) (by kernel_rfl) (laid_met os _))) ?_
  intro W base args ds gs before hval0 hW _ hcond hsz0 hL _ _
  exact contract H enc W base args ds gs before hval0 hW hsz0 (tabs_of_laid hL)

theorem said : Rows.UpRoundSaid :=
  OpenClaim.holds_of_cond 13 Tryd.f13 rfl rfl rfl rfl rfl rfl rfl ⟨rfl, rfl, rfl, rfl, rfl⟩ rfl rfl rfl rfl rfl (by kernel_rfl) Tryd.func13 (by kernel_rfl)
    (of_decide_eq_true (by kernel_rfl)) (by unfold Func.isWrapper; first | (rw [if_pos (by decide +kernel)]; kernel_rfl) | (rw [if_neg (by decide +kernel)]; exact ⟨rfl, rfl⟩))
    (fun os started H enc _ F => by rw [OpenClaim.pre_eq_preRow]; exact lifted os started H enc F)

/-- No parameter wants a stand-in; the program's own looks are off. -/
theorem plain (f : FuncId) (fn : Func) (hf : Tryd.pinned.checked.prog.funcNamed "bracken/brackenkeep.UpRound" = some f) (hfn : Tryd.pinned.checked.prog.funcs[f]? = some fn) :
    false = Tryd.pinned.checked.prog.looks [] ∧ ∀ (j : Nat) t, fn.params[j]? = some t → Tryd.pinned.checked.prog.wantsStandIn t = false := by
  obtain rfl : f = 13 := Option.some.inj ((show Tryd.prog.funcNamed "bracken/brackenkeep.UpRound" = some 13 by kernel_rfl).symm.trans hf) |>.symm
  obtain rfl : fn = Tryd.f13 := (Option.some.inj (Tryd.func13.symm.trans hfn)).symm
  refine ⟨by kernel_rfl, fun j t ht => ?_⟩
  rw [Tryd.params13] at ht
  have hm := Array.mem_of_getElem? ht
  have hall : (#[26, 3] : Array TypeId).all (fun t => !Tryd.prog.wantsStandIn t) = true := by kernel_rfl
  have := Array.all_eq_true_iff_forall_mem.1 hall t (by simpa using hm)
  show Tryd.prog.wantsStandIn t = false
  simpa using this

/-- The statement. -/
theorem proved : Rows.UpRoundCardSaid :=
  Claim7.holds_tied_plain_at .later [] _ _ _ _ said (fun _ h => by cases h) (by kernel_rfl) (fun _ h => by cases h) upRound_row_tie rfl ⟨rfl, rfl⟩ (by kernel_rfl) rfl plain (by kernel_rfl)
#print axioms proved
end Go.Proofs.YtejdhcipmkaboaaDoor.upRound
