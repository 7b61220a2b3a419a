/-
  The law DeltaNone of package brackenkeep: for every input it answers true.
-/
import Derived.Test.YtnmokjgnbcfabaaDoorRows
import Derived.Test.YtnmokjgnbcfabaaDoorPkBase
import Derived.Test.YtnmokjgnbcfabaaDoorPkDelB
import Derived.Test.YtnmokjgnbcfabaaDoorPkStateB
import Derived.Test.YtnmokjgnbcfabaaDoorPkHeld
import Derived.Deep.RegionLaw
import Derived.Deep.DeepCutAuto
import Derived.IntWalk
set_option linter.unusedVariables false
set_option linter.unusedSimpArgs false
namespace Go.Proofs.YtnmokjgnbcfabaaDoor.deltaNone
open Go.ChangeShapes Go.WideShapes Go.ChangeAt Go.RowKit Go.Joins
open Go.ChangeMaps (open_string)
theorem rest_int (a l : Int) (h0 : 0 < l) (hl : l ≤ 4611686018427387904) : ∃ r : Int, (0 ≤ r ∧ r < l) ∧ Hid (∀ W : World, Calls Tryd.prog 16 #[.int .i64 a, .int .i64 l] W fun e w' => e = .returned (.int .i64 r) ∧ W = w') :=
  ⟨a % l, ⟨Int.emod_nonneg a (by omega), Int.emod_lt_of_pos a h0⟩, fun W : World => rest_any a l W h0 (by omega)⟩
theorem noneSz (a b : Int) : DelSz ⟨a, b, [], [], [], [], [], []⟩ := ⟨by simp, by simp, by simp, by simp, by simp, by simp⟩
set_option maxHeartbeats 8000000 in
set_option maxRecDepth 100000 in
theorem walk (s : St) (p1 p2 p3 : Option Addr) (c1 c2 c3 : Nat) (w : World) (hm : StM w w.heap.size p1 p2 p3 s) (hk : StOk s) (n : Int) (n1 : -9223372036854775808 ≤ n) (n2 : n ≤ 9223372036854775807) (hT : Tabs w) :
    Calls Tryd.prog 7 #[.agg #[.int .i64 s.rev, .slice p1 s.jobs.length c1, .slice p2 s.nodes.length c2, .slice p3 s.leases.length c3], .int .i64 n] w fun e w' => e = .returned (.bool true) ∧ Below w.heap.size w w' := by
  have hb0 : Below w.heap.size w (w.alloc (.cells #[Value.int .i64 s.rev, Value.slice p1 s.jobs.length c1, Value.slice p2 s.nodes.length c2, Value.slice p3 s.leases.length c3] 26)) := (Below.refl _ _).alloc (Nat.le_refl _) _
  have bx0 := Blk.new w 26 #[Value.int .i64 s.rev, Value.slice p1 s.jobs.length c1, Value.slice p2 s.nodes.length c2, Value.slice p3 s.leases.length c3]
  have hz := hk.sz
  have HM := Lib.hid hm
  have HZ := Lib.hid hz
  have HT := Lib.hid hT
  have hzd := zero_delta_lit
  have HC := Lib.hid (fun (W : World) (hW : Below w.heap.size w W) => stCheck_any s p1 p2 p3 c1 c2 c3 W ((hm.below hW).more hW.size) hz (hT.below hW))
  clear hm hk hz hT
  by_cases hc : checkE s = 0
  · have hF := (fine_iff s).1 hc
    have hr0 := hF.rev.1
    have hr1 := hF.rev.2
    have HF := Lib.hid hF
    have hck := HC.out
    rw [hc] at hck
    have HC0 := Lib.hid hck
    clear hF hc hck HC
    have z0 : (((0 : Nat) : Int) != 0) = false := rfl
    by_cases hrev : (1099511627776 : Int) ≤ s.rev
    · go_enter Tryd.func7, Tryd.ntmps7
      go_wp2_with fail
      generalize w.alloc _ = W_1 at *
      refine (differed_any _ (HT.out.below hb0)).mono ?_
      rintro e w_2 ⟨rfl, hb_3⟩
      have b_4 := bx0.below hb_3 bx0.lt
      have c_5 := hb0.trans (hb_3.mono hb0.size)
      clear bx0 hb0 hb_3
      go_wp2_with (first | (refine wpList_load_blk_w (by rfl) _ _ rfl (w.heap.size) rfl _ #[Value.int .i64 s.rev, Value.slice p1 s.jobs.length c1, Value.slice p2 s.nodes.length c2, Value.slice p3 s.leases.length c3] b_4 _ Tryd.underlying26 rfl state_size ?_))
      refine (HC0.out _ c_5).mono ?_
      rintro e w_6 ⟨rfl, hb_7⟩
      have b_8 := b_4.below hb_7 b_4.lt
      have c_9 := c_5.trans (hb_7.mono c_5.size)
      clear b_4 c_5 hb_7
      have x0 : w_6.cell? ⟨w.heap.size, 0, none⟩ = some (.int .i64 s.rev) := b_8.cell 0
      go_wp2_with (first | (refine wpList_load_blk_w (by rfl) _ _ rfl (w.heap.size) rfl _ #[Value.int .i64 s.rev, Value.slice p1 s.jobs.length c1, Value.slice p2 s.nodes.length c2, Value.slice p3 s.leases.length c3] b_8 _ Tryd.underlying26 rfl state_size ?_))
      go_ret
      exact ⟨rfl, c_9⟩
    · have hlt : s.rev < 1099511627776 := by omega
      have hdr : decide ((1099511627776 : Int) ≤ s.rev) = false := decide_eq_false hrev
      obtain ⟨r, hr, HR⟩ := rest_int n (1099511627776 - s.rev) (by omega) (by omega)
      obtain ⟨hr2, hr3⟩ := hr
      have hw1 : IntKind.i64.wrap (s.rev + 1) = s.rev + 1 := IntWalk.i64_in _ (by omega)
      have hw2 : IntKind.i64.wrap (1099511627776 - s.rev) = 1099511627776 - s.rev := IntWalk.i64_in _ (by omega)
      have hw3 : IntKind.i64.wrap (s.rev + 1 + r) = s.rev + 1 + r := IntWalk.i64_in _ (by omega)
      go_enter Tryd.func7, Tryd.ntmps7
      go_wp2_with fail
      generalize w.alloc _ = W_1 at *
      refine (differed_any _ (HT.out.below hb0)).mono ?_
      rintro e w_2 ⟨rfl, hb_3⟩
      have b_4 := bx0.below hb_3 bx0.lt
      have c_5 := hb0.trans (hb_3.mono hb0.size)
      clear bx0 hb0 hb_3
      go_wp2_with (first | (refine wpList_load_blk_w (by rfl) _ _ rfl (w.heap.size) rfl _ #[Value.int .i64 s.rev, Value.slice p1 s.jobs.length c1, Value.slice p2 s.nodes.length c2, Value.slice p3 s.leases.length c3] b_4 _ Tryd.underlying26 rfl state_size ?_))
      refine (HC0.out _ c_5).mono ?_
      rintro e w_6 ⟨rfl, hb_7⟩
      have b_8 := b_4.below hb_7 b_4.lt
      have c_9 := c_5.trans (hb_7.mono c_5.size)
      clear b_4 c_5 hb_7
      have x0 : w_6.cell? ⟨w.heap.size, 0, none⟩ = some (.int .i64 s.rev) := b_8.cell 0
      go_upto_region 6 with (first | (refine wpList_store_new rfl _ _ _ rfl rfl 26 _ #[Value.int .i64 s.rev, Value.slice p1 s.jobs.length c1, Value.slice p2 s.nodes.length c2, Value.slice p3 s.leases.length c3] rfl state_size rfl (one_st4 _ _ _ _ _ _ _ _ _ _) ?_) | (refine wpList_load_blk_w (by rfl) _ _ rfl (w.heap.size) rfl _ #[Value.int .i64 s.rev, Value.slice p1 s.jobs.length c1, Value.slice p2 s.nodes.length c2, Value.slice p3 s.leases.length c3] b_8 _ Tryd.underlying26 rfl state_size ?_))
      clear x0
      have bs5 := b_8.alloc (.cells #[Value.int .i64 s.rev, Value.slice p1 s.jobs.length c1, Value.slice p2 s.nodes.length c2, Value.slice p3 s.leases.length c3] 26)
      have bt5 := Blk.new w_6 26 #[Value.int .i64 s.rev, Value.slice p1 s.jobs.length c1, Value.slice p2 s.nodes.length c2, Value.slice p3 s.leases.length c3]
      have c5 := c_9.alloc c_9.size (.cells #[Value.int .i64 s.rev, Value.slice p1 s.jobs.length c1, Value.slice p2 s.nodes.length c2, Value.slice p3 s.leases.length c3] 26)
      have hst : w.heap.size < w_6.heap.size := b_8.lt
      clear b_8 c_9
      generalize w_6.alloc (.cells #[Value.int .i64 s.rev, Value.slice p1 s.jobs.length c1, Value.slice p2 s.nodes.length c2, Value.slice p3 s.leases.length c3] 26) = W5 at *
      generalize w_6.heap.size = gt at *
      have hgs : gt ≠ w.heap.size := by omega
      simp only [Act.put]
      go_cut [27] (fun v wx => Blk wx gt 26 #[Value.int .i64 (s.rev + 1 + r), Value.slice p1 s.jobs.length c1, Value.slice p2 s.nodes.length c2, Value.slice p3 s.leases.length c3] ∧ Blk wx w.heap.size 26 #[Value.int .i64 s.rev, Value.slice p1 s.jobs.length c1, Value.slice p2 s.nodes.length c2, Value.slice p3 s.leases.length c3] ∧ Below w.heap.size w wx)
      case first =>
        have y0 : W5.drew.cell? ⟨w.heap.size, 0, none⟩ = some (.int .i64 s.rev) := bs5.cell 0
        have y1 : W5.drew.cell? ⟨gt, 0, none⟩ = some (.int .i64 s.rev) := bt5.cell 0
        have f1 : W5.drew.frozen? ⟨gt, 0, none⟩ = false := bt5.frozen 0
        have bt6 : Blk (W5.drew.setCell ⟨gt, 0, none⟩ (.int .i64 (s.rev + 1 + r))) gt 26 #[Value.int .i64 (s.rev + 1 + r), Value.slice p1 s.jobs.length c1, Value.slice p2 s.nodes.length c2, Value.slice p3 s.leases.length c3] := bt5.drew.set_ 0 _
        have bs6 := bs5.drew.far (p := ⟨gt, 0, none⟩) (Ne.symm hgs) (.int .i64 (s.rev + 1 + r))
        have c6 := c5.drew.setCell (p := ⟨gt, 0, none⟩) (Nat.le_of_lt hst) (.int .i64 (s.rev + 1 + r))
        go_region_law (first | (go_simp; go_at_call 16; refine (HR.out _).mono ?_; rintro e w' ⟨rfl, rfl⟩))
        all_goals
          go_wp2_with fail
          go_meet
          exact ⟨bt6, bs6, c6⟩
      case rest =>
        obtain ⟨bt, bs, cw⟩ := hcut
        clear bs5 bt5 c5
        have hF2 : Fine { s with rev := s.rev + 1 + r } := ⟨⟨by show 0 ≤ s.rev + 1 + r; omega, by show s.rev + 1 + r ≤ 1099511627776; omega⟩, HF.out.nj, HF.out.nl, HF.out.nn, HF.out.j, HF.out.sj, HF.out.n, HF.out.sn, HF.out.l, HF.out.sl, HF.out.room⟩
        have hDE : diffE s { s with rev := s.rev + 1 + r } = 0 := by
          unfold diffE
          rw [(fine_iff s).2 HF.out, (fine_iff _).2 hF2, if_neg (by simp), if_neg (by simp), if_neg (by show ¬ s.rev + 1 + r ≤ s.rev; omega)]
        have hDD : diffD s { s with rev := s.rev + 1 + r } = ⟨s.rev, s.rev + 1 + r, [], [], [], [], [], []⟩ := by
          unfold diffD
          rw [if_pos hDE]
          exact betw_self s _
        have hdf := diff_any s { s with rev := s.rev + 1 + r } p1 p2 p3 p1 p2 p3 c1 c2 c3 c1 c2 c3 wc ((HM.out.below cw).more cw.size) ⟨(HM.out.j.below cw).more cw.size, (HM.out.n.below cw).more cw.size, (HM.out.l.below cw).more cw.size⟩ HZ.out ⟨HZ.out.j, HZ.out.n, HZ.out.nr, HZ.out.lj, HZ.out.ln, HZ.out.ll⟩ (HT.out.below cw)
        rw [hDE, hDD] at hdf
        have HD := Lib.hid hdf
        clear hdf hDE hDD hF2
        clear hw1 hw2 hw3
        generalize s.rev + 1 + r = rt at *
        go_wp2_with (first | (refine wpList_load_blk rfl _ _ rfl w.heap.size rfl _ #[Value.int .i64 s.rev, Value.slice p1 s.jobs.length c1, Value.slice p2 s.nodes.length c2, Value.slice p3 s.leases.length c3] bs _ Tryd.underlying26 rfl state_size ?_) | (refine wpList_load_blk rfl _ _ rfl gt rfl _ #[Value.int .i64 rt, Value.slice p1 s.jobs.length c1, Value.slice p2 s.nodes.length c2, Value.slice p3 s.leases.length c3] bt _ Tryd.underlying26 rfl state_size ?_))
        refine HD.out.mono ?_
        rintro e w7 ⟨r1, r2, r3, r4, r5, r6, e1, e2, e3, e4, e5, e6, rfl, hO, hb7⟩
        have c7 := cw.trans (hb7.mono cw.size)
        have bs7 := bs.below hb7 bs.lt
        have bt7 := bt.below hb7 bt.lt
        clear bs bt hb7 HD
        have bd8 := Blk.new w7 51 #[Value.int .i64 s.rev, Value.int .i64 rt, Value.slice r1 0 e1, Value.slice r2 0 e2, Value.slice r3 0 e3, Value.slice r4 0 e4, Value.slice r5 0 e5, Value.slice r6 0 e6]
        have bs8 := bs7.alloc (.cells #[Value.int .i64 s.rev, Value.int .i64 rt, Value.slice r1 0 e1, Value.slice r2 0 e2, Value.slice r3 0 e3, Value.slice r4 0 e4, Value.slice r5 0 e5, Value.slice r6 0 e6] 51)
        have bt8 := bt7.alloc (.cells #[Value.int .i64 s.rev, Value.int .i64 rt, Value.slice r1 0 e1, Value.slice r2 0 e2, Value.slice r3 0 e3, Value.slice r4 0 e4, Value.slice r5 0 e5, Value.slice r6 0 e6] 51)
        have c8 := c7.alloc c7.size (.cells #[Value.int .i64 s.rev, Value.int .i64 rt, Value.slice r1 0 e1, Value.slice r2 0 e2, Value.slice r3 0 e3, Value.slice r4 0 e4, Value.slice r5 0 e5, Value.slice r6 0 e6] 51)
        have hM8 := (hO.below ((Below.refl _ _).alloc (Nat.le_refl _) (.cells #[Value.int .i64 s.rev, Value.int .i64 rt, Value.slice r1 0 e1, Value.slice r2 0 e2, Value.slice r3 0 e3, Value.slice r4 0 e4, Value.slice r5 0 e5, Value.slice r6 0 e6] 51))).m
        have y0 : (w7.alloc (.cells #[Value.int .i64 s.rev, Value.int .i64 rt, Value.slice r1 0 e1, Value.slice r2 0 e2, Value.slice r3 0 e3, Value.slice r4 0 e4, Value.slice r5 0 e5, Value.slice r6 0 e6] 51)).cell? ⟨w.heap.size, 0, none⟩ = some (.int .i64 s.rev) := bs8.cell 0
        have y1 : (w7.alloc (.cells #[Value.int .i64 s.rev, Value.int .i64 rt, Value.slice r1 0 e1, Value.slice r2 0 e2, Value.slice r3 0 e3, Value.slice r4 0 e4, Value.slice r5 0 e5, Value.slice r6 0 e6] 51)).cell? ⟨gt, 0, none⟩ = some (.int .i64 rt) := bt8.cell 0
        have hEq := deltaEq_any ⟨s.rev, rt, [], [], [], [], [], []⟩ ⟨s.rev, rt, [], [], [], [], [], []⟩ r1 r2 r3 r4 r5 r6 none none none none none none e1 e2 e3 e4 e5 e6 0 0 0 0 0 0 (w7.alloc (.cells #[Value.int .i64 s.rev, Value.int .i64 rt, Value.slice r1 0 e1, Value.slice r2 0 e2, Value.slice r3 0 e3, Value.slice r4 0 e4, Value.slice r5 0 e5, Value.slice r6 0 e6] 51)) hM8 (DelM.nil' _ _ _ _) (noneSz _ _) (noneSz _ _)
        rw [decide_eq_true rfl] at hEq
        have HE := Lib.hid hEq
        clear hEq hM8 hO
        have z1 : (((0 : Nat) : Int) == 0) = true := rfl
        go_wp2_with (first | (refine wpList_store_new rfl _ _ _ rfl rfl 51 _ #[Value.int .i64 s.rev, Value.int .i64 rt, Value.slice r1 0 e1, Value.slice r2 0 e2, Value.slice r3 0 e3, Value.slice r4 0 e4, Value.slice r5 0 e5, Value.slice r6 0 e6] rfl delta_size rfl (one_d8 _ _ _ _ _ _ _ _ _ _ _ _ _ _ _ _ _ _ _ _) ?_) | (refine wpList_load_blk_w (by rfl) _ _ rfl w7.heap.size rfl _ #[Value.int .i64 s.rev, Value.int .i64 rt, Value.slice r1 0 e1, Value.slice r2 0 e2, Value.slice r3 0 e3, Value.slice r4 0 e4, Value.slice r5 0 e5, Value.slice r6 0 e6] bd8 _ Tryd.underlying51 rfl delta_size ?_))
        refine HE.out.mono ?_
        rintro e w9 ⟨rfl, hb9⟩
        have c9 := c8.trans (hb9.mono c8.size)
        go_wp2_with fail
        go_ret
        exact ⟨rfl, c9⟩
  · have hne : ((checkE s : Int) != 0) = true := by rw [bne_iff_ne]; omega
    generalize checkE s = ce at *
    clear hc
    go_enter Tryd.func7, Tryd.ntmps7
    go_wp2_with fail
    generalize w.alloc _ = W_1 at *
    refine (differed_any _ (HT.out.below hb0)).mono ?_
    rintro e w_2 ⟨rfl, hb_3⟩
    have b_4 := bx0.below hb_3 bx0.lt
    have c_5 := hb0.trans (hb_3.mono hb0.size)
    clear bx0 hb0 hb_3
    go_wp2_with (first | (refine wpList_load_blk_w (by rfl) _ _ rfl (w.heap.size) rfl _ #[Value.int .i64 s.rev, Value.slice p1 s.jobs.length c1, Value.slice p2 s.nodes.length c2, Value.slice p3 s.leases.length c3] b_4 _ Tryd.underlying26 rfl state_size ?_))
    refine (HC.out _ c_5).mono ?_
    rintro e w_6 ⟨rfl, hb_7⟩
    have b_8 := b_4.below hb_7 b_4.lt
    have c_9 := c_5.trans (hb_7.mono c_5.size)
    clear b_4 c_5 hb_7
    go_wp2_with (first | (refine wpList_load_blk_w (by rfl) _ _ rfl (w.heap.size) rfl _ #[Value.int .i64 s.rev, Value.slice p1 s.jobs.length c1, Value.slice p2 s.nodes.length c2, Value.slice p3 s.leases.length c3] b_8 _ Tryd.underlying26 rfl state_size ?_))
    go_ret
    exact ⟨rfl, c_9⟩

theorem own : ownKnob Tryd.prog.godebug = none := by kernel_rfl
theorem laid : laidOutB Tryd.prog = true := by kernel_rfl
set_option maxRecDepth 100000 in
theorem contract (H : Type) (enc : TypeId × Value → H) (W : World) (base : Nat) (args : Array Value) (ds gs : List (DataW H)) (before : List MemPlace)
    (hval0 : ∀ (j : Nat) t v, Tryd.f7.params[j]? = some t → args[j]? = some v → Value.okWide Tryd.prog W .any base t v)
    (hW : DataW.Whole enc Tryd.prog Tryd.f7.params.toList Rows.deltaNoneSpec.vars false W args.toList ds gs before)
    (hsz0 : (DataW.weightsEach Tryd.prog (Tryd.f7.params.toList ++ Rows.deltaNoneSpec.plain.varTypes Tryd.prog) (ds ++ gs)).all (· ≤ reachBytes) = true)
    (hT : Tabs W) :
    Calls Tryd.prog 7 args W fun e W' => ∃ v, e = .returned v ∧ Rows.deltaNoneSpec.post enc Tryd.prog Tryd.f7 false true false false W args v W' := by
  have hval : ∀ (j : Nat) t v, Tryd.f7.params[j]? = some t → args[j]? = some v → Value.okWide Tryd.prog W .any base t v := hval0
  have hsz : (DataW.weightsEach Tryd.prog (Tryd.f7.params.toList ++ Rows.deltaNoneSpec.plain.varTypes Tryd.prog) (ds ++ gs)).all (· ≤ reachBytes) = true := hsz0
  have hlt : ∀ x ∈ before, x.block < W.heap.size := fun x hx => hW.lt x hx
  have hW' := hW
  obtain ⟨p, q, hA0, hV, rfl, hfz, hnd⟩ := hW
  have hA : DataW.TrodAll enc Tryd.prog W 0 (fun _ => true) true Tryd.f7.params.toList args.toList ds p := hA0
  rw [Tryd.params7] at hA hval hsz
  obtain ⟨v0, vs0, d0, ds0, p0, q0, hargs, rfl, rfl, h0, r0⟩ := trodAll_cons hA
  obtain ⟨v1, vs1, d1, ds1, p1, q1, rfl, rfl, rfl, h1, r1⟩ := trodAll_cons r0
  obtain ⟨rfl, rfl, rfl⟩ := trodAll_nil r1
  obtain rfl : args = #[v0, v1] := by cases args; simp_all
  obtain ⟨rfl, rfl⟩ := trodVars_none hV
  obtain ⟨s0, pj0, pn0, pl0, cj0, cn0, cl0, rfl, hm0, hk0⟩ := open_state (hval 0 26 v0 rfl rfl) h0 hsz (j := 0) rfl rfl
  obtain ⟨a1, rfl, rfl, rfl, w1⟩ := open_int Tryd.underlying3 (hval 1 3 v1 rfl rfl) h1
  have b1 := bounds_i64 w1
  refine (walk s0 pj0 pn0 pl0 cj0 cn0 cl0 W hm0 hk0 a1 b1.1 b1.2 hT).mono fun e W' ⟨he, hb⟩ => ?_
  subst he
  exact ⟨_, rfl, law_post laid (by kernel_rfl) Tryd.underlying4 rfl rfl hW' rfl rfl rfl rfl hb⟩

theorem reads (os : Os) {H : Type} (enc : TypeId × Value → H) : ∃ places, DataW.whole enc Tryd.prog ((laidWorld os).forCall (fun _ _ => 0) ⟨#[], #[.agg #[.int .i64 0, .slice none 0 0, .slice none 0 0, .slice none 0 0], .int .i64 0], []⟩).memory Tryd.f7.params.toList Rows.deltaNoneSpec.vars false (#[.agg #[.int .i64 0, .slice none 0 0, .slice none 0 0, .slice none 0 0], .int .i64 0] : Array Value).toList 8 = some ([.agg [.lit (.int .i64 0), .nil, .nil, .nil], .lit (.int .i64 0)], [], places) :=
  ⟨[], by kernel_rfl⟩
set_option maxRecDepth 100000 in
theorem lifted (os : Os) (started : os.Started) (H : Type) (enc : TypeId × Value → H) (F : Stop.Interp) :
    ReturnsInHanded {} Tryd.checked os 7 .any ((OpenSpec.ofChange Rows.deltaNoneSpec).preRow enc Tryd.prog Tryd.f7 Rows.deltaNoneRow.domain false Rows.deltaNoneRow.laid) (((OpenSpec.ofChange Rows.deltaNoneSpec).at F).post enc Tryd.prog Tryd.f7 false true false false) := by
  obtain ⟨places, hx⟩ := reads os enc
  refine returnsInHanded_of_row (C := Tryd.checked) (s := (OpenSpec.ofChange Rows.deltaNoneSpec)) own started (by kernel_rfl) Tryd.func7
    (witness_row_atRef (enc := enc) (C := Tryd.checked) false (laidWorld os) #[.agg #[.int .i64 0, .slice none 0 0, .slice none 0 0, .slice none 0 0], .int .i64 0] rfl (by kernel_rfl) (by kernel_rfl) (by kernel_rfl)
      (OpenSpec.preRow_of_cond 8 hx (by kernel_rfl) (fun k hk => by cases hk) (by kernel_rfl) (laid_met os _))) ?_
  intro W base args ds gs before hval0 hW _ hcond hsz0 hL _ _
  exact contract H enc W base args ds gs before hval0 hW hsz0 (tabs_of_laid hL)

theorem said : Rows.DeltaNoneSaid :=
  OpenClaim.holds_of_cond 7 Tryd.f7 rfl rfl rfl rfl rfl rfl rfl ⟨rfl, rfl, rfl, rfl, rfl⟩ rfl rfl rfl rfl rfl (by kernel_rfl) Tryd.func7 (by kernel_rfl)
    (of_decide_eq_true (by kernel_rfl)) (by unfold Func.isWrapper; first | (rw [if_pos (by decide +kernel)]; kernel_rfl) | (rw [if_neg (by decide +kernel)]; exact ⟨rfl, rfl⟩))
    (fun os started H enc _ F => by rw [OpenClaim.pre_eq_preRow]; exact lifted os started H enc F)

/-- No parameter wants a stand-in; the program's own looks are off. -/
theorem plain (f : FuncId) (fn : Func) (hf : Tryd.pinned.checked.prog.funcNamed "bracken/brackenkeep.DeltaNone" = some f) (hfn : Tryd.pinned.checked.prog.funcs[f]? = some fn) :
    false = Tryd.pinned.checked.prog.looks [] ∧ ∀ (j : Nat) t, fn.params[j]? = some t → Tryd.pinned.checked.prog.wantsStandIn t = false := by
  obtain rfl : f = 7 := Option.some.inj ((show Tryd.prog.funcNamed "bracken/brackenkeep.DeltaNone" = some 7 by kernel_rfl).symm.trans hf) |>.symm
  obtain rfl : fn = Tryd.f7 := (Option.some.inj (Tryd.func7.symm.trans hfn)).symm
  refine ⟨by kernel_rfl, fun j t ht => ?_⟩
  rw [Tryd.params7] at ht
  have hm := Array.mem_of_getElem? ht
  have hall : (#[26, 3] : Array TypeId).all (fun t => !Tryd.prog.wantsStandIn t) = true := by kernel_rfl
  have := Array.all_eq_true_iff_forall_mem.1 hall t (by simpa using hm)
  show Tryd.prog.wantsStandIn t = false
  simpa using this

/-- The statement. -/
theorem proved : Rows.DeltaNoneCardSaid :=
  Claim7.holds_tied_plain_at .later [] _ _ _ _ said (fun _ h => by cases h) (by kernel_rfl) (fun _ h => by cases h) deltaNone_row_tie rfl ⟨rfl, rfl⟩ (by kernel_rfl) rfl plain (by kernel_rfl)
#print axioms proved
end Go.Proofs.YtnmokjgnbcfabaaDoor.deltaNone
