/-
  The law JSONWire of package brackenkeep: for every input it answers true.
-/
import Derived.Test.YtdicoepjkngikaaGreatDoorRows
import Derived.Test.YtdicoepjkngikaaGreatDoorPkBase
import Derived.Test.YtdicoepjkngikaaGreatDoorPkLaidJ
import Derived.BigQuiet
import Derived.Test.YtdicoepjkngikaaGreatDoorPkJsY
import Derived.Test.YtdicoepjkngikaaGreatDoorPkEnc
import Derived.Test.YtdicoepjkngikaaGreatDoorPkWired
set_option linter.unusedVariables false
set_option linter.unusedSimpArgs false
namespace Go.Proofs.YtdicoepjkngikaaGreatDoor.jSONWire
open Go.ChangeShapes Go.WideShapes Go.ChangeAt Go.RowKit Go.Joins
open Go.ChangeMaps (open_string)
set_option maxHeartbeats 8000000 in
set_option maxRecDepth 100000 in
theorem walk (s0 : St) (pj0 pn0 pl0 : Option Addr) (cj0 cn0 cl0 : Nat) (w : World) (hm0 : StM w w.heap.size pj0 pn0 pl0 s0) (hk0 : StOk s0) (hT : LibJ w.heap.size w) :
    Calls Tryz.prog 3 #[.agg #[Value.int .i64 s0.rev, Value.slice pj0 s0.jobs.length cj0, Value.slice pn0 s0.nodes.length cn0, Value.slice pl0 s0.leases.length cl0]] w fun e w' => e = .returned (.bool true) ∧ Below w.heap.size w w' := by
  have bb0 := Blk.new w 26 #[Value.int .i64 s0.rev, Value.slice pj0 s0.jobs.length cj0, Value.slice pn0 s0.nodes.length cn0, Value.slice pl0 s0.leases.length cl0]
  have cc : Below w.heap.size w (w.alloc (.cells #[Value.int .i64 s0.rev, Value.slice pj0 s0.jobs.length cj0, Value.slice pn0 s0.nodes.length cn0, Value.slice pl0 s0.leases.length cl0] 26)) := (Below.refl _ _).alloc (by simp) (.cells #[Value.int .i64 s0.rev, Value.slice pj0 s0.jobs.length cj0, Value.slice pn0 s0.nodes.length cn0, Value.slice pl0 s0.leases.length cl0] 26)
  have HM0 := Lib.hid hm0
  have HZ0 := Lib.hid hk0.sz
  have HT := Lib.hid hT
  have hzs := zero_st_lit
  have z0 : (((0 : Nat) : Int) != 0) = false := rfl
  have z1 : (((0 : Nat) : Int) == 0) = true := rfl
  have HPr := Lib.hid (fun (W : World) (hW : Below w.heap.size w W) => Print_any s0 pj0 pn0 pl0 cj0 cn0 cl0 W ((HM0.out.below hW).more hW.size) HZ0.out (HT.out.atP hW))
  have HCk := Lib.hid (fun (W : World) (hW : Below w.heap.size w W) => stCheck_any s0 pj0 pn0 pl0 cj0 cn0 cl0 W ((HM0.out.below hW).more hW.size) HZ0.out (HT.out.atT hW))
  clear hT hm0 hk0
  have HEn := Lib.hid (fun (W : World) (hW : Below w.heap.size w W) => encode_state s0 3 pj0 pn0 pl0 cj0 cn0 cl0 W ((HM0.out.below hW).more hW.size) HZ0.out (HT.out.atT hW))
  by_cases hE : checkE s0 = 0
  · have F := (fine_iff s0).1 hE
    have hpr : printE s0 = printL s0 := by unfold printE; rw [if_pos hE]
    rw [hpr, hE] at HPr
    have hus : (bstr (printL s0)).size = (printL s0).length := bstr_size _
    have he : encR 3 s0 = (encS 3 s0, 0) := encR_three hE
    rw [he] at HEn
    have hd := decT_enc3 hE
    have hle := encS_len3 hE
    clear hpr hE he
    by_cases hl : (printL s0).length ≤ 60000
    · have HPs := Lib.hid (fun (W : World) (hW : Below w.heap.size w W) => parse_of s0 F hl W (HT.out.at_ hW))
      have hul : ¬ ((bstr (printL s0)).size : Int) > 60000 := by omega
      generalize bstr (printL s0) = u at *
      have HD := Lib.hid hd
      generalize encS 3 s0 = out at *
      clear hl F hus hd
      go_enter Tryz.func3, Tryz.ntmps3
      go_wp2_with fail
      generalize w.alloc _ = W0 at *
      refine (printedF_any _ (HT.out.atP cc)).mono ?_
      rintro e w1 ⟨rfl, hb2⟩
      have b3 := bb0.below hb2 bb0.lt
      have c4 := cc.trans (hb2.mono cc.size)
      clear bb0 cc hb2
      go_wp2_with (first | (refine wpList_load_blk_w (by rfl) _ _ rfl (w.heap.size) rfl _ #[Value.int .i64 s0.rev, Value.slice pj0 s0.jobs.length cj0, Value.slice pn0 s0.nodes.length cn0, Value.slice pl0 s0.leases.length cl0] b3 _ Tryz.underlying26 rfl state_size4 ?_))
      refine (wired_any _ (HT.out.atT c4)).mono ?_
      rintro e w5 ⟨rfl, hb6⟩
      have b7 := b3.below hb6 b3.lt
      have c8 := c4.trans (hb6.mono c4.size)
      clear b3 c4 hb6
      go_wp2_with (first | (refine wpList_load_blk_w (by rfl) _ _ rfl (w.heap.size) rfl _ #[Value.int .i64 s0.rev, Value.slice pj0 s0.jobs.length cj0, Value.slice pn0 s0.nodes.length cn0, Value.slice pl0 s0.leases.length cl0] b7 _ Tryz.underlying26 rfl state_size4 ?_))
      refine (HPr.out _ c8).mono ?_
      rintro e w9 ⟨rfl, hb10⟩
      have b11 := b7.below hb10 b7.lt
      have c12 := c8.trans (hb10.mono c8.size)
      clear b7 c8 hb10
      go_wp2_with (first | (refine wpList_load_blk_w (by rfl) _ _ rfl (w.heap.size) rfl _ #[Value.int .i64 s0.rev, Value.slice pj0 s0.jobs.length cj0, Value.slice pn0 s0.nodes.length cn0, Value.slice pl0 s0.leases.length cl0] b11 _ Tryz.underlying26 rfl state_size4 ?_))
      refine (HEn.out _ c12).mono ?_
      rintro e w13 ⟨rfl, hb14⟩
      have b15 := b11.below hb14 b11.lt
      have c16 := c12.trans (hb14.mono c12.size)
      clear b11 c12 hb14
      go_wp2_with (first | (refine wpList_load_blk_w (by rfl) _ _ rfl (w.heap.size) rfl _ #[Value.int .i64 s0.rev, Value.slice pj0 s0.jobs.length cj0, Value.slice pn0 s0.nodes.length cn0, Value.slice pl0 s0.leases.length cl0] b15 _ Tryz.underlying26 rfl state_size4 ?_))
      refine (HPs.out _ c16).mono ?_
      rintro e w18 ⟨q11a, q11b, q11c, d11a, d11b, d11c, rfl, m17, hb19⟩
      have b20 := b15.below hb19 b15.lt
      have c21 := c16.trans (hb19.mono c16.size)
      clear b15 c16 hb19
      have hb22 : Below w18.heap.size w18 (w18.alloc (.cells #[Value.int .i64 s0.rev, Value.slice q11a s0.jobs.length d11a, Value.slice q11b s0.nodes.length d11b, Value.slice q11c s0.leases.length d11c] 26)) := (Below.refl _ _).alloc (Nat.le_refl _) _
      have b23 := Blk.new w18 26 #[Value.int .i64 s0.rev, Value.slice q11a s0.jobs.length d11a, Value.slice q11b s0.nodes.length d11b, Value.slice q11c s0.leases.length d11c]
      have b24 := b20.below hb22 b20.lt
      have m25 := (m17.below hb22).more hb22.size
      have c26 := c21.trans (hb22.mono c21.size)
      clear b20 m17 c21 hb22
      go_wp2_with (first | (refine wpList_store_new rfl _ _ _ rfl rfl 26 _ #[Value.int .i64 s0.rev, Value.slice q11a s0.jobs.length d11a, Value.slice q11b s0.nodes.length d11b, Value.slice q11c s0.leases.length d11c] rfl state_size4 rfl (one_stJ _ _ _ _ _ _ _ _ _ _) ?_) | (first | (refine wpList_load_blk_w (by rfl) _ _ rfl (w.heap.size) rfl _ #[Value.int .i64 s0.rev, Value.slice pj0 s0.jobs.length cj0, Value.slice pn0 s0.nodes.length cn0, Value.slice pl0 s0.leases.length cl0] b24 _ Tryz.underlying26 rfl state_size4 ?_) | (refine wpList_load_blk_w (by rfl) _ _ rfl (w18.heap.size) rfl _ #[Value.int .i64 s0.rev, Value.slice q11a s0.jobs.length d11a, Value.slice q11b s0.nodes.length d11b, Value.slice q11c s0.leases.length d11c] b23 _ Tryz.underlying26 rfl state_size4 ?_)))
      generalize w18.alloc _ = W27 at *
      generalize w18.heap.size = g28 at *
      refine (decode_state (bstr out) 3 _ (by rw [bstr_size]; omega) (HT.out.atT c26)).mono ?_
      rintro e w29 ⟨t, er, qza, qzb, qzc, dza, dzb, dzc, rfl, m31, _, hb30, hd⟩
      rw [bstr_list, HD.out] at hd
      injection hd with hd1 hd2
      subst hd1 hd2
      have b32 := b24.below hb30 b24.lt
      have b33 := b23.below hb30 b23.lt
      have m34 := (m25.below hb30).more hb30.size
      have c35 := c26.trans (hb30.mono c26.size)
      clear b24 b23 m25 c26 hb30
      have hb36 : Below w29.heap.size w29 (w29.alloc (.cells #[Value.int .i64 s0.rev, Value.slice qza s0.jobs.length dza, Value.slice qzb s0.nodes.length dzb, Value.slice qzc s0.leases.length dzc] 26)) := (Below.refl _ _).alloc (Nat.le_refl _) _
      have b37 := Blk.new w29 26 #[Value.int .i64 s0.rev, Value.slice qza s0.jobs.length dza, Value.slice qzb s0.nodes.length dzb, Value.slice qzc s0.leases.length dzc]
      have b38 := b32.below hb36 b32.lt
      have b39 := b33.below hb36 b33.lt
      have m40 := (m34.below hb36).more hb36.size
      have m41 := (m31.below hb36).more hb36.size
      have c42 := c35.trans (hb36.mono c35.size)
      clear b32 b33 m34 m31 c35 hb36
      go_wp2_with (first | (refine wpList_store_new rfl _ _ _ rfl rfl 26 _ #[Value.int .i64 s0.rev, Value.slice qza s0.jobs.length dza, Value.slice qzb s0.nodes.length dzb, Value.slice qzc s0.leases.length dzc] rfl state_size4 rfl (one_stJ _ _ _ _ _ _ _ _ _ _) ?_) | (first | (refine wpList_load_blk_w (by rfl) _ _ rfl (w.heap.size) rfl _ #[Value.int .i64 s0.rev, Value.slice pj0 s0.jobs.length cj0, Value.slice pn0 s0.nodes.length cn0, Value.slice pl0 s0.leases.length cl0] b38 _ Tryz.underlying26 rfl state_size4 ?_) | (refine wpList_load_blk_w (by rfl) _ _ rfl (g28) rfl _ #[Value.int .i64 s0.rev, Value.slice q11a s0.jobs.length d11a, Value.slice q11b s0.nodes.length d11b, Value.slice q11c s0.leases.length d11c] b39 _ Tryz.underlying26 rfl state_size4 ?_) | (refine wpList_load_blk_w (by rfl) _ _ rfl (w29.heap.size) rfl _ #[Value.int .i64 s0.rev, Value.slice qza s0.jobs.length dza, Value.slice qzb s0.nodes.length dzb, Value.slice qzc s0.leases.length dzc] b37 _ Tryz.underlying26 rfl state_size4 ?_)))
      generalize w29.alloc _ = W43 at *
      generalize w29.heap.size = g44 at *
      have hS := same_any s0 s0 q11a q11b q11c qza qzb qzc d11a d11b d11c dza dzb dzc _ m40 m41 HZ0.out HZ0.out
      rw [decide_eq_true rfl] at hS
      refine (hS).mono ?_
      rintro e w45 ⟨rfl, hb46⟩
      have b47 := b38.below hb46 b38.lt
      have b48 := b39.below hb46 b39.lt
      have b49 := b37.below hb46 b37.lt
      have m50 := (m40.below hb46).more hb46.size
      have m51 := (m41.below hb46).more hb46.size
      have c52 := c42.trans (hb46.mono c42.size)
      clear b38 b39 b37 m40 m41 c42 hb46
      go_wp2_with (first | (refine wpList_load_blk_w (by rfl) _ _ rfl (w.heap.size) rfl _ #[Value.int .i64 s0.rev, Value.slice pj0 s0.jobs.length cj0, Value.slice pn0 s0.nodes.length cn0, Value.slice pl0 s0.leases.length cl0] b47 _ Tryz.underlying26 rfl state_size4 ?_) | (refine wpList_load_blk_w (by rfl) _ _ rfl (g28) rfl _ #[Value.int .i64 s0.rev, Value.slice q11a s0.jobs.length d11a, Value.slice q11b s0.nodes.length d11b, Value.slice q11c s0.leases.length d11c] b48 _ Tryz.underlying26 rfl state_size4 ?_) | (refine wpList_load_blk_w (by rfl) _ _ rfl (g44) rfl _ #[Value.int .i64 s0.rev, Value.slice qza s0.jobs.length dza, Value.slice qzb s0.nodes.length dzb, Value.slice qzc s0.leases.length dzc] b49 _ Tryz.underlying26 rfl state_size4 ?_))
      go_ret
      exact ⟨rfl, c52⟩
    · have hul : ((bstr (printL s0)).size : Int) > 60000 := by omega
      generalize bstr (printL s0) = u at *
      clear hl F hus hd hle
      generalize bstr (encS 3 s0) = out at *
      go_enter Tryz.func3, Tryz.ntmps3
      go_wp2_with fail
      generalize w.alloc _ = W0 at *
      refine (printedF_any _ (HT.out.atP cc)).mono ?_
      rintro e w1 ⟨rfl, hb2⟩
      have b3 := bb0.below hb2 bb0.lt
      have c4 := cc.trans (hb2.mono cc.size)
      clear bb0 cc hb2
      go_wp2_with (first | (refine wpList_load_blk_w (by rfl) _ _ rfl (w.heap.size) rfl _ #[Value.int .i64 s0.rev, Value.slice pj0 s0.jobs.length cj0, Value.slice pn0 s0.nodes.length cn0, Value.slice pl0 s0.leases.length cl0] b3 _ Tryz.underlying26 rfl state_size4 ?_))
      refine (wired_any _ (HT.out.atT c4)).mono ?_
      rintro e w5 ⟨rfl, hb6⟩
      have b7 := b3.below hb6 b3.lt
      have c8 := c4.trans (hb6.mono c4.size)
      clear b3 c4 hb6
      go_wp2_with (first | (refine wpList_load_blk_w (by rfl) _ _ rfl (w.heap.size) rfl _ #[Value.int .i64 s0.rev, Value.slice pj0 s0.jobs.length cj0, Value.slice pn0 s0.nodes.length cn0, Value.slice pl0 s0.leases.length cl0] b7 _ Tryz.underlying26 rfl state_size4 ?_))
      refine (HPr.out _ c8).mono ?_
      rintro e w9 ⟨rfl, hb10⟩
      have b11 := b7.below hb10 b7.lt
      have c12 := c8.trans (hb10.mono c8.size)
      clear b7 c8 hb10
      go_wp2_with (first | (refine wpList_load_blk_w (by rfl) _ _ rfl (w.heap.size) rfl _ #[Value.int .i64 s0.rev, Value.slice pj0 s0.jobs.length cj0, Value.slice pn0 s0.nodes.length cn0, Value.slice pl0 s0.leases.length cl0] b11 _ Tryz.underlying26 rfl state_size4 ?_))
      refine (HEn.out _ c12).mono ?_
      rintro e w13 ⟨rfl, hb14⟩
      have b15 := b11.below hb14 b11.lt
      have c16 := c12.trans (hb14.mono c12.size)
      clear b11 c12 hb14
      go_wp2_with (first | (refine wpList_load_blk_w (by rfl) _ _ rfl (w.heap.size) rfl _ #[Value.int .i64 s0.rev, Value.slice pj0 s0.jobs.length cj0, Value.slice pn0 s0.nodes.length cn0, Value.slice pl0 s0.leases.length cl0] b15 _ Tryz.underlying26 rfl state_size4 ?_))
      go_ret
      exact ⟨rfl, c16⟩
  · have he : (encR 3 s0).2 = checkE s0 := encR_check hE
    have hne1 : ((checkE s0 : Int) != 0) = true := by rw [bne_iff_ne]; omega
    rw [he] at HEn
    generalize bstr (printE s0) = u at *
    generalize bstr (encR 3 s0).1 = ue at *
    generalize checkE s0 = er0 at *
    clear hE he
    go_enter Tryz.func3, Tryz.ntmps3
    go_wp2_with fail
    generalize w.alloc _ = W0 at *
    refine (printedF_any _ (HT.out.atP cc)).mono ?_
    rintro e w1 ⟨rfl, hb2⟩
    have b3 := bb0.below hb2 bb0.lt
    have c4 := cc.trans (hb2.mono cc.size)
    clear bb0 cc hb2
    go_wp2_with (first | (refine wpList_load_blk_w (by rfl) _ _ rfl (w.heap.size) rfl _ #[Value.int .i64 s0.rev, Value.slice pj0 s0.jobs.length cj0, Value.slice pn0 s0.nodes.length cn0, Value.slice pl0 s0.leases.length cl0] b3 _ Tryz.underlying26 rfl state_size4 ?_))
    refine (wired_any _ (HT.out.atT c4)).mono ?_
    rintro e w5 ⟨rfl, hb6⟩
    have b7 := b3.below hb6 b3.lt
    have c8 := c4.trans (hb6.mono c4.size)
    clear b3 c4 hb6
    go_wp2_with (first | (refine wpList_load_blk_w (by rfl) _ _ rfl (w.heap.size) rfl _ #[Value.int .i64 s0.rev, Value.slice pj0 s0.jobs.length cj0, Value.slice pn0 s0.nodes.length cn0, Value.slice pl0 s0.leases.length cl0] b7 _ Tryz.underlying26 rfl state_size4 ?_))
    refine (HPr.out _ c8).mono ?_
    rintro e w9 ⟨rfl, hb10⟩
    have b11 := b7.below hb10 b7.lt
    have c12 := c8.trans (hb10.mono c8.size)
    clear b7 c8 hb10
    go_wp2_with (first | (refine wpList_load_blk_w (by rfl) _ _ rfl (w.heap.size) rfl _ #[Value.int .i64 s0.rev, Value.slice pj0 s0.jobs.length cj0, Value.slice pn0 s0.nodes.length cn0, Value.slice pl0 s0.leases.length cl0] b11 _ Tryz.underlying26 rfl state_size4 ?_))
    refine (HEn.out _ c12).mono ?_
    rintro e w13 ⟨rfl, hb14⟩
    have b15 := b11.below hb14 b11.lt
    have c16 := c12.trans (hb14.mono c12.size)
    clear b11 c12 hb14
    go_wp2_with (first | (refine wpList_load_blk_w (by rfl) _ _ rfl (w.heap.size) rfl _ #[Value.int .i64 s0.rev, Value.slice pj0 s0.jobs.length cj0, Value.slice pn0 s0.nodes.length cn0, Value.slice pl0 s0.leases.length cl0] b15 _ Tryz.underlying26 rfl state_size4 ?_))
    go_ret
    exact ⟨by simp, c16⟩

theorem own : ownKnob Tryz.prog.godebug = none := by kernel_rfl
theorem laid : laidOutB Tryz.prog = true := by kernel_rfl
set_option maxRecDepth 100000 in
theorem contract (H : Type) (enc : TypeId × Value → H) (W : World) (base : Nat) (args : Array Value) (ds gs : List (DataW H)) (before : List MemPlace)
    (hval0 : ∀ (j : Nat) t v, Tryz.f3.params[j]? = some t → args[j]? = some v → Value.okWide Tryz.prog W .any base t v)
    (hW : DataW.Whole enc Tryz.prog Tryz.f3.params.toList Rows.jSONWireSpec.vars false W args.toList ds gs before)
    (hsz0 : (DataW.weightsEach Tryz.prog (Tryz.f3.params.toList ++ Rows.jSONWireSpec.plain.varTypes Tryz.prog) (ds ++ gs)).all (· ≤ reachBytes) = true)
    (hT : LibJ W.heap.size W) :
    Calls Tryz.prog 3 args W fun e W' => ∃ v, e = .returned v ∧ Rows.jSONWireSpec.post enc Tryz.prog Tryz.f3 false true false false W args v W' := by
  have hval : ∀ (j : Nat) t v, Tryz.f3.params[j]? = some t → args[j]? = some v → Value.okWide Tryz.prog W .any base t v := hval0
  have hsz : (DataW.weightsEach Tryz.prog (Tryz.f3.params.toList ++ Rows.jSONWireSpec.plain.varTypes Tryz.prog) (ds ++ gs)).all (· ≤ reachBytes) = true := hsz0
  have hlt : ∀ x ∈ before, x.block < W.heap.size := fun x hx => hW.lt x hx
  have hW' := hW
  obtain ⟨p, q, hA0, hV, rfl, hfz, hnd⟩ := hW
  have hA : DataW.TrodAll enc Tryz.prog W 0 (fun _ => true) true Tryz.f3.params.toList args.toList ds p := hA0
  rw [Tryz.params3] at hA hval hsz
  obtain ⟨v0, vs0, d0, ds0, p0, q0, hargs, rfl, rfl, h0, r0⟩ := trodAll_cons hA
  obtain ⟨rfl, rfl, rfl⟩ := trodAll_nil r0
  obtain rfl : args = #[v0] := by cases args; simp_all
  obtain ⟨rfl, rfl⟩ := trodVars_none hV
  obtain ⟨s0, pj0, pn0, pl0, cj0, cn0, cl0, rfl, hm0, hk0⟩ := open_state (hval 0 26 v0 rfl rfl) h0 hsz (j := 0) rfl rfl
  refine (walk s0 pj0 pn0 pl0 cj0 cn0 cl0 W hm0 hk0 hT).mono fun e W' ⟨he, hb⟩ => ?_
  subst he
  exact ⟨_, rfl, law_post laid (by kernel_rfl) Tryz.underlying4 rfl rfl hW' rfl rfl rfl rfl hb⟩

theorem reads (os : Os) {H : Type} (enc : TypeId × Value → H) : ∃ places, DataW.whole enc Tryz.prog ((laidWorldJ os).forCall (fun _ _ => 0) ⟨#[], #[.agg #[.int .i64 0, .slice none 0 0, .slice none 0 0, .slice none 0 0]], []⟩).memory Tryz.f3.params.toList Rows.jSONWireSpec.vars false (#[.agg #[.int .i64 0, .slice none 0 0, .slice none 0 0, .slice none 0 0]] : Array Value).toList 8 = some ([.agg [.lit (.int .i64 0), .nil, .nil, .nil]], [], places) :=
  ⟨[], by kernel_rfl⟩
set_option maxRecDepth 100000 in
theorem lifted (os : Os) (started : os.Started) (H : Type) (enc : TypeId × Value → H) (F : Stop.Interp) :
    ReturnsInHanded {} Tryz.checked os 3 .any ((OpenSpec.ofChange Rows.jSONWireSpec).preRow enc Tryz.prog Tryz.f3 Rows.jSONWireRow.domain false Rows.jSONWireRow.laid) (((OpenSpec.ofChange Rows.jSONWireSpec).at F).post enc Tryz.prog Tryz.f3 false true false false) := by
  obtain ⟨places, hx⟩ := reads os enc
  refine returnsInHanded_of_row (C := Tryz.checked) (s := (OpenSpec.ofChange Rows.jSONWireSpec)) own started (by kernel_rfl) Tryz.func3
    (witness_row_atRef (enc := enc) (C := Tryz.checked) false (laidWorldJ os) #[.agg #[.int .i64 0, .slice none 0 0, .slice none 0 0, .slice none 0 0]] rfl (by kernel_rfl) (by kernel_rfl) (by kernel_rfl)
      (OpenSpec.preRow_of_cond 8 hx (by kernel_rfl) (fun k hk => by cases hk) (by kernel_rfl) (laid_metJ os _))) ?_
  intro W base args ds gs before hval0 hW _ hcond hsz0 hL _ _
  exact contract H enc W base args ds gs before hval0 hW hsz0 (libJ_of_laid hL)

theorem said : Rows.JSONWireSaid :=
  OpenClaim.holds_of_cond 3 Tryz.f3 rfl rfl rfl rfl rfl rfl rfl ⟨rfl, rfl, rfl, rfl, rfl⟩ rfl rfl rfl rfl rfl (by kernel_rfl) Tryz.func3 (by kernel_rfl)
    (of_decide_eq_true (by kernel_rfl)) (by unfold Func.isWrapper; first | (rw [if_pos (by decide +kernel)]; kernel_rfl) | (rw [if_neg (by decide +kernel)]; exact ⟨rfl, rfl⟩))
    (fun os started H enc _ F => by rw [OpenClaim.pre_eq_preRow]; exact lifted os started H enc F)

/-- No parameter wants a stand-in; the program's own looks are off. -/
theorem plain (f : FuncId) (fn : Func) (hf : Tryz.pinned.checked.prog.funcNamed "bracken/brackenkeep.JSONWire" = some f) (hfn : Tryz.pinned.checked.prog.funcs[f]? = some fn) :
    true = Tryz.pinned.checked.prog.looks [] ∧ ∀ (j : Nat) t, fn.params[j]? = some t → Tryz.pinned.checked.prog.wantsStandIn t = false := by
  obtain rfl : f = 3 := Option.some.inj ((show Tryz.prog.funcNamed "bracken/brackenkeep.JSONWire" = some 3 by kernel_rfl).symm.trans hf) |>.symm
  obtain rfl : fn = Tryz.f3 := (Option.some.inj (Tryz.func3.symm.trans hfn)).symm
  refine ⟨by kernel_rfl, fun j t ht => ?_⟩
  rw [Tryz.params3] at ht
  have hm := Array.mem_of_getElem? ht
  have hall : (#[26] : Array TypeId).all (fun t => !Tryz.prog.wantsStandIn t) = true := by kernel_rfl
  have := Array.all_eq_true_iff_forall_mem.1 hall t (by simpa using hm)
  show Tryz.prog.wantsStandIn t = false
  simpa using this

/-- The statement. -/
theorem proved : Rows.JSONWireCardSaid :=
  Claim7.holds_tied_plain_at .later [] _ _ _ _ said (fun _ h => by cases h) (by kernel_rfl) (fun _ h => by cases h) jSONWire_row_tie rfl ⟨rfl, rfl⟩ (by kernel_rfl) rfl plain (by kernel_rfl)
#print axioms proved
end Go.Proofs.YtdicoepjkngikaaGreatDoor.jSONWire
