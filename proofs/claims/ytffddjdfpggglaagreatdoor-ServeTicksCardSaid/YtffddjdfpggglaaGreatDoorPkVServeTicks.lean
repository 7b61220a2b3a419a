/-
  Several texts in one: VServeTicks.
-/
import Derived.Test.YtffddjdfpggglaaGreatDoorPkBase
import Derived.Test.YtffddjdfpggglaaGreatDoorPkSvLaw
import Derived.Test.YtffddjdfpggglaaGreatDoorPkSvRest
set_option linter.unusedVariables false
set_option linter.unusedSimpArgs false
set_option maxHeartbeats 16000000
set_option maxRecDepth 100000
namespace Go.Proofs.YtffddjdfpggglaaGreatDoor.serveTicks
open Go.ChangeShapes Go.WideShapes Go.ChangeAt Go.RowKit Go.Joins
open Go.ChangeMaps (open_string)
theorem walk (s0 : St) (pj0 pn0 pl0 : Option Addr) (cj0 cn0 cl0 : Nat) (w : World) (hm0 : StM w w.heap.size pj0 pn0 pl0 s0) (hk0 : StOk s0) (a1 : Int) (ha1a : -9223372036854775808 ≤ a1) (ha1b : a1 ≤ 9223372036854775807) (a2 : Int) (ha2a : -9223372036854775808 ≤ a2) (ha2b : a2 ≤ 9223372036854775807) (hT : Tabs w) :
    Calls Tryz.prog 9 #[.agg #[Value.int .i64 s0.rev, Value.slice pj0 s0.jobs.length cj0, Value.slice pn0 s0.nodes.length cn0, Value.slice pl0 s0.leases.length cl0], .int .i64 a1, .int .i64 a2] w fun e w' => e = .returned (.bool true) ∧ Below w.heap.size w w' := by
  have b1 := (Blk.new w 26 #[Value.int .i64 s0.rev, Value.slice pj0 s0.jobs.length cj0, Value.slice pn0 s0.nodes.length cn0, Value.slice pl0 s0.leases.length cl0])
  have c2 : Below w.heap.size w (w.alloc (.cells #[Value.int .i64 s0.rev, Value.slice pj0 s0.jobs.length cj0, Value.slice pn0 s0.nodes.length cn0, Value.slice pl0 s0.leases.length cl0] 26)) := ((Below.refl _ _).alloc (Nat.le_refl _) (.cells #[Value.int .i64 s0.rev, Value.slice pj0 s0.jobs.length cj0, Value.slice pn0 s0.nodes.length cn0, Value.slice pl0 s0.leases.length cl0] 26))
  have HM0 := Lib.hid hm0
  have HZ0 := Lib.hid hk0.sz
  have HR1 := Lib.hid (fun (W : World) => rest_any a1 1000 W (by decide) (by decide))
  have HR2 := Lib.hid (fun (W : World) => rest_any a2 1000 W (by decide) (by decide))
  have hA := Lib.hid (show 0 ≤ a1 % 1000 ∧ a1 % 1000 ≤ 1000 from ⟨Int.emod_nonneg _ (by decide), by have := Int.emod_lt_of_pos a1 (show (0 : Int) < 1000 by decide); omega⟩)
  have hB := Lib.hid (show 0 ≤ a2 % 1000 ∧ a2 % 1000 ≤ 1000 from ⟨Int.emod_nonneg _ (by decide), by have := Int.emod_lt_of_pos a2 (show (0 : Int) < 1000 by decide); omega⟩)
  generalize a1 % 1000 = a at *
  generalize a2 % 1000 = b at *
  have HT := Lib.hid hT
  have hzr := zero_rep_lit
  have hzd := zero_delta_lit
  have hzs := zero_state_lit
  have hzq := zero_request_lit
  have hzj := zero_job_lit
  have hzl := zero_lease_lit
  have z0 : (((0 : Nat) : Int) != 0) = false := rfl
  have z1 : (((0 : Nat) : Int) == 0) = true := rfl
  clear hT hm0 hk0 ha1a ha1b ha2a ha2b
  by_cases hE : checkE s0 = 0
  · have HE := Lib.hid hE
    have F0 := Lib.hid ((fine_iff s0).1 hE)
    clear hE
    go_enter Tryz.func9, Tryz.ntmps9
    go_wp2_with fail
    generalize w.alloc _ = W3 at *
    refine (served_any _ (HT.out.below c2)).mono ?_
    rintro e w4 ⟨rfl, hb5⟩
    have b6 := b1.below hb5 b1.lt
    have c7 := c2.trans (hb5.mono c2.size)
    clear b1 c2 hb5
    go_wp2_with (first | (refine wpList_load_blk_w (by rfl) _ _ rfl (w.heap.size) rfl _ _ b6 _ Tryz.underlying26 rfl state_size ?_))
    refine (HR1.out _).mono ?_
    rintro e wy ⟨rfl, rfl⟩
    go_wp2_with (first | (refine wpList_load_blk_w (by rfl) _ _ rfl (w.heap.size) rfl _ _ b6 _ Tryz.underlying26 rfl state_size ?_))
    refine (HR2.out _).mono ?_
    rintro e wy ⟨rfl, rfl⟩
    go_wp2_with (first | (refine wpList_load_blk_w (by rfl) _ _ rfl (w.heap.size) rfl _ _ b6 _ Tryz.underlying26 rfl state_size ?_))
    have OK14 := Lib.hid (show SrvOk ⟨s0, 0⟩ from ⟨F0.out, Int.le_refl _, (by decide : (0 : Int) ≤ 1099511627776)⟩)
    refine (svNew_ok s0 pj0 pn0 pl0 cj0 cn0 cl0 _ ((HM0.out.below c7).more c7.size) HZ0.out (HT.out.below c7) HE.out).mono ?_
    rintro e w8 ⟨g10, rfl, hg11, i12, hb9⟩
    have ge13 : w.heap.size ≤ g10 := Nat.le_trans c7.size hg11
    clear hg11
    have b15 := b6.below hb9 b6.lt
    have c16 := c7.trans (hb9.mono c7.size)
    clear b6 c7 hb9
    go_wp2_with (first | (refine wpList_load_blk_w (by rfl) _ _ rfl (w.heap.size) rfl _ _ b15 _ Tryz.underlying26 rfl state_size ?_))
    have OK23 := Lib.hid (show SrvOk ⟨s0, 0⟩ from ⟨F0.out, Int.le_refl _, (by decide : (0 : Int) ≤ 1099511627776)⟩)
    refine (svNew_ok s0 pj0 pn0 pl0 cj0 cn0 cl0 _ ((HM0.out.below c16).more c16.size) HZ0.out (HT.out.below c16) HE.out).mono ?_
    rintro e w17 ⟨g19, rfl, hg20, i21, hb18⟩
    have ge22 : w.heap.size ≤ g19 := Nat.le_trans c16.size hg20
    have ne24 := Nat.ne_of_lt (Nat.lt_of_lt_of_le i12.lt hg20)
    clear hg20
    have b25 := b15.below hb18 b15.lt
    have i26 := i12.below hb18
    have c27 := c16.trans (hb18.mono c16.size)
    clear b15 i12 c16 hb18
    have HP := Lib.hid (two_ticks hA.out hB.out F0.out)
    have hwr : IntKind.i64.wrap (a + b) = a + b := IntWalk.i64_in _ (by have := hA.out; have := hB.out; omega)
    go_wp2_with (first | (refine wpList_load_blk_w (by rfl) _ _ rfl (w.heap.size) rfl _ _ b25 _ Tryz.underlying26 rfl state_size ?_))
    refine (svDo_any (qTick a) (⟨s0, 0⟩ : Srv) g10 _ i26 OK14.out (reqSz_tick a) (HT.out.below c27)).mono ?_
    rintro e w28 ⟨x32a, x32b, x32c, x32d, x32e, x32f, y32a, y32b, y32c, y32d, y32e, y32f, rfl, i29, hg30, hd31⟩
    obtain ⟨cs33, hc34⟩ := i26.blk
    have b35 := blk_srv i26 hg30 b25 (by decide)
    have i36 := i21.other hg30 hc34 (Ne.symm ne24)
    have c37 := below_grown c27 hg30 ge13 c27.size
    have OK38 := Lib.hid (doR_ok OK14.out (qTick a)).1
    clear i26 c27 hg30 hc34 b25 i21
    generalize (doR (⟨s0, 0⟩ : Srv) (qTick a)) = r39 at *
    have t41 := two_first (w := w28)
    have t42 := two_second (w := w28) #[Value.int .i64 ((r39.code : Nat) : Int), Value.int .i64 r39.srv.st.rev]
    obtain ⟨hb43, G40⟩ := two_blks (w := w28) (rc := #[Value.int .i64 ((r39.code : Nat) : Int), Value.int .i64 r39.srv.st.rev]) (dc := #[Value.int .i64 (toldD r39).frm, Value.int .i64 (toldD r39).upto, Value.slice x32a (toldD r39).jobs.length y32a, Value.slice x32b (toldD r39).nodes.length y32b, Value.slice x32c (toldD r39).leases.length y32c, Value.slice x32d (toldD r39).gj.length y32d, Value.slice x32e (toldD r39).gn.length y32e, Value.slice x32f (toldD r39).gl.length y32f])
    have b44 := b35.below hb43 b35.lt
    have i45 := i29.below hb43
    have i46 := i36.below hb43
    have c47 := c37.trans (hb43.mono c37.size)
    clear b35 i29 i36 c37 hb43 hd31
    go_upto_region 9 with (first | (refine wpList_store_blk rfl _ _ _ rfl w28.heap.size rfl _ _ #[Value.int .i64 ((r39.code : Nat) : Int), Value.int .i64 r39.srv.st.rev] t41 rfl rep_size rfl (one_rep _ _) ?_) | (refine wpList_store_blk rfl _ _ _ rfl (w28.heap.size + 1) rfl _ _ #[Value.int .i64 (toldD r39).frm, Value.int .i64 (toldD r39).upto, Value.slice x32a (toldD r39).jobs.length y32a, Value.slice x32b (toldD r39).nodes.length y32b, Value.slice x32c (toldD r39).leases.length y32c, Value.slice x32d (toldD r39).gj.length y32d, Value.slice x32e (toldD r39).gn.length y32e, Value.slice x32f (toldD r39).gl.length y32f] t42 rfl delta_size rfl (one_d8 _ _ _ _ _ _ _ _ _ _ _ _ _ _ _ _ _ _ _ _) ?_) )
    obtain ⟨b50, b51⟩ := G40
    clear t41 t42
    generalize (((w28.alloc _).alloc _).setRow _ _).setRow _ _ = W48 at *
    generalize w28.heap.size = k49 at *
    go_wp2_with (first | (refine wpList_load_blk_w (by rfl) _ _ rfl (w.heap.size) rfl _ _ b44 _ Tryz.underlying26 rfl state_size ?_) | (refine wpList_load_blk_w (by rfl) _ _ rfl (k49) rfl _ _ b50 _ Tryz.underlying42 rfl rep_size ?_))
    refine (svDo_any (qTick b) r39.srv g10 _ i45 OK38.out (reqSz_tick b) (HT.out.below c47)).mono ?_
    rintro e w52 ⟨x56a, x56b, x56c, x56d, x56e, x56f, y56a, y56b, y56c, y56d, y56e, y56f, rfl, i53, hg54, hd55⟩
    obtain ⟨cs57, hc58⟩ := i45.blk
    have b59 := blk_srv i45 hg54 b44 (by decide)
    have b60 := blk_srv i45 hg54 b50 (by decide)
    have i61 := i46.other hg54 hc58 (Ne.symm ne24)
    have c62 := below_grown c47 hg54 ge13 c47.size
    have OK63 := Lib.hid (doR_ok OK38.out (qTick b)).1
    clear i45 c47 hg54 hc58 b44 b50 i46
    generalize (doR r39.srv (qTick b)) = r64 at *
    have t66 := two_first (w := w52)
    have t67 := two_second (w := w52) #[Value.int .i64 ((r64.code : Nat) : Int), Value.int .i64 r64.srv.st.rev]
    obtain ⟨hb68, G65⟩ := two_blks (w := w52) (rc := #[Value.int .i64 ((r64.code : Nat) : Int), Value.int .i64 r64.srv.st.rev]) (dc := #[Value.int .i64 (toldD r64).frm, Value.int .i64 (toldD r64).upto, Value.slice x56a (toldD r64).jobs.length y56a, Value.slice x56b (toldD r64).nodes.length y56b, Value.slice x56c (toldD r64).leases.length y56c, Value.slice x56d (toldD r64).gj.length y56d, Value.slice x56e (toldD r64).gn.length y56e, Value.slice x56f (toldD r64).gl.length y56f])
    have b69 := b59.below hb68 b59.lt
    have b70 := b60.below hb68 b60.lt
    have i71 := i53.below hb68
    have i72 := i61.below hb68
    have c73 := c62.trans (hb68.mono c62.size)
    clear b59 b60 i53 i61 c62 hb68 hd55
    go_upto_region 10 with (first | (refine wpList_store_blk rfl _ _ _ rfl w52.heap.size rfl _ _ #[Value.int .i64 ((r64.code : Nat) : Int), Value.int .i64 r64.srv.st.rev] t66 rfl rep_size rfl (one_rep _ _) ?_) | (refine wpList_store_blk rfl _ _ _ rfl (w52.heap.size + 1) rfl _ _ #[Value.int .i64 (toldD r64).frm, Value.int .i64 (toldD r64).upto, Value.slice x56a (toldD r64).jobs.length y56a, Value.slice x56b (toldD r64).nodes.length y56b, Value.slice x56c (toldD r64).leases.length y56c, Value.slice x56d (toldD r64).gj.length y56d, Value.slice x56e (toldD r64).gn.length y56e, Value.slice x56f (toldD r64).gl.length y56f] t67 rfl delta_size rfl (one_d8 _ _ _ _ _ _ _ _ _ _ _ _ _ _ _ _ _ _ _ _) ?_) )
    obtain ⟨b76, b77⟩ := G65
    clear t66 t67
    generalize (((w52.alloc _).alloc _).setRow _ _).setRow _ _ = W74 at *
    generalize w52.heap.size = k75 at *
    go_wp2_with (first | (refine wpList_load_blk_w (by rfl) _ _ rfl (w.heap.size) rfl _ _ b69 _ Tryz.underlying26 rfl state_size ?_) | (refine wpList_load_blk_w (by rfl) _ _ rfl (k49) rfl _ _ b70 _ Tryz.underlying42 rfl rep_size ?_) | (refine wpList_load_blk_w (by rfl) _ _ rfl (k75) rfl _ _ b76 _ Tryz.underlying42 rfl rep_size ?_))
    refine (svDo_any (qTick (a + b)) (⟨s0, 0⟩ : Srv) g19 _ i72 OK23.out (reqSz_tick (a + b)) (HT.out.below c73)).mono ?_
    rintro e w78 ⟨x82a, x82b, x82c, x82d, x82e, x82f, y82a, y82b, y82c, y82d, y82e, y82f, rfl, i79, hg80, hd81⟩
    obtain ⟨cs83, hc84⟩ := i72.blk
    have b85 := blk_srv i72 hg80 b69 (by decide)
    have b86 := blk_srv i72 hg80 b70 (by decide)
    have b87 := blk_srv i72 hg80 b76 (by decide)
    have i88 := i71.other hg80 hc84 (ne24)
    have c89 := below_grown c73 hg80 ge22 c73.size
    have OK90 := Lib.hid (doR_ok OK23.out (qTick (a + b))).1
    clear i72 c73 hg80 hc84 b69 b70 b76 i71
    generalize (doR (⟨s0, 0⟩ : Srv) (qTick (a + b))) = r91 at *
    have t93 := two_first (w := w78)
    have t94 := two_second (w := w78) #[Value.int .i64 ((r91.code : Nat) : Int), Value.int .i64 r91.srv.st.rev]
    obtain ⟨hb95, G92⟩ := two_blks (w := w78) (rc := #[Value.int .i64 ((r91.code : Nat) : Int), Value.int .i64 r91.srv.st.rev]) (dc := #[Value.int .i64 (toldD r91).frm, Value.int .i64 (toldD r91).upto, Value.slice x82a (toldD r91).jobs.length y82a, Value.slice x82b (toldD r91).nodes.length y82b, Value.slice x82c (toldD r91).leases.length y82c, Value.slice x82d (toldD r91).gj.length y82d, Value.slice x82e (toldD r91).gn.length y82e, Value.slice x82f (toldD r91).gl.length y82f])
    have b96 := b85.below hb95 b85.lt
    have b97 := b86.below hb95 b86.lt
    have b98 := b87.below hb95 b87.lt
    have i99 := i88.below hb95
    have i100 := i79.below hb95
    have c101 := c89.trans (hb95.mono c89.size)
    clear b85 b86 b87 i88 i79 c89 hb95 hd81
    go_upto_region 11 with (first | (refine wpList_store_blk rfl _ _ _ rfl w78.heap.size rfl _ _ #[Value.int .i64 ((r91.code : Nat) : Int), Value.int .i64 r91.srv.st.rev] t93 rfl rep_size rfl (one_rep _ _) ?_) | (refine wpList_store_blk rfl _ _ _ rfl (w78.heap.size + 1) rfl _ _ #[Value.int .i64 (toldD r91).frm, Value.int .i64 (toldD r91).upto, Value.slice x82a (toldD r91).jobs.length y82a, Value.slice x82b (toldD r91).nodes.length y82b, Value.slice x82c (toldD r91).leases.length y82c, Value.slice x82d (toldD r91).gj.length y82d, Value.slice x82e (toldD r91).gn.length y82e, Value.slice x82f (toldD r91).gl.length y82f] t94 rfl delta_size rfl (one_d8 _ _ _ _ _ _ _ _ _ _ _ _ _ _ _ _ _ _ _ _) ?_) )
    obtain ⟨b104, b105⟩ := G92
    clear t93 t94
    generalize (((w78.alloc _).alloc _).setRow _ _).setRow _ _ = W102 at *
    generalize w78.heap.size = k103 at *
    have cl106 : W102.cell? ⟨k49, 0, none⟩ = some (Value.int .i64 ((r39.code : Nat) : Int)) := b97.cell 0
    have cl107 : W102.cell? ⟨k75, 0, none⟩ = some (Value.int .i64 ((r64.code : Nat) : Int)) := b98.cell 0
    have cl108 : W102.cell? ⟨k103, 0, none⟩ = some (Value.int .i64 ((r91.code : Nat) : Int)) := b104.cell 0
    have cl109 : W102.cell? ⟨w.heap.size, 0, none⟩ = some (Value.int .i64 s0.rev) := b96.cell 0
    generalize ha : r39.code = ca at *
    generalize hb : r64.code = cb at *
    generalize hc : r91.code = cc_ at *
    clear ha hb hc
    by_cases hk : ca = 0 ∧ cb = 0 ∧ cc_ = 0
    · have hT2 := HP.out
      rw [if_pos hk] at hT2
      obtain ⟨rfl, rfl, rfl⟩ := hk
      obtain ⟨e1, e2, e3⟩ := hT2
      have n1 : (r64.srv.now == r91.srv.now) = true := by rw [e1, e2]; simp
      have n2 : (r64.srv.now == a + b) = true := by rw [e1]; simp
      have HS3 := Lib.hid (sameT_iff.1 e3)
      clear e1 e2 e3 HP
      go_upto_region 13 with fail
      clear cl106 cl107 cl108 cl109
      go_wp2_with (first | (refine wpList_load_blk_w (by rfl) _ _ rfl (w.heap.size) rfl _ _ b96 _ Tryz.underlying26 rfl state_size ?_) | (refine wpList_load_blk_w (by rfl) _ _ rfl (k49) rfl _ _ b97 _ Tryz.underlying42 rfl rep_size ?_) | (refine wpList_load_blk_w (by rfl) _ _ rfl (k75) rfl _ _ b98 _ Tryz.underlying42 rfl rep_size ?_) | (refine wpList_load_blk_w (by rfl) _ _ rfl (k103) rfl _ _ b104 _ Tryz.underlying42 rfl rep_size ?_))
      refine (svNow_any g10 r64.srv _ i99).mono ?_
      rintro e w110 ⟨rfl, rfl⟩
      go_wp2_with (first | (refine wpList_load_blk_w (by rfl) _ _ rfl (w.heap.size) rfl _ _ b96 _ Tryz.underlying26 rfl state_size ?_) | (refine wpList_load_blk_w (by rfl) _ _ rfl (k49) rfl _ _ b97 _ Tryz.underlying42 rfl rep_size ?_) | (refine wpList_load_blk_w (by rfl) _ _ rfl (k75) rfl _ _ b98 _ Tryz.underlying42 rfl rep_size ?_) | (refine wpList_load_blk_w (by rfl) _ _ rfl (k103) rfl _ _ b104 _ Tryz.underlying42 rfl rep_size ?_))
      refine (svNow_any g19 r91.srv _ i100).mono ?_
      rintro e w111 ⟨rfl, rfl⟩
      go_wp2_with (first | (refine wpList_load_blk_w (by rfl) _ _ rfl (w.heap.size) rfl _ _ b96 _ Tryz.underlying26 rfl state_size ?_) | (refine wpList_load_blk_w (by rfl) _ _ rfl (k49) rfl _ _ b97 _ Tryz.underlying42 rfl rep_size ?_) | (refine wpList_load_blk_w (by rfl) _ _ rfl (k75) rfl _ _ b98 _ Tryz.underlying42 rfl rep_size ?_) | (refine wpList_load_blk_w (by rfl) _ _ rfl (k103) rfl _ _ b104 _ Tryz.underlying42 rfl rep_size ?_))
      refine (svNow_any g10 r64.srv _ i99).mono ?_
      rintro e w112 ⟨rfl, rfl⟩
      go_wp2_with (first | (refine wpList_load_blk_w (by rfl) _ _ rfl (w.heap.size) rfl _ _ b96 _ Tryz.underlying26 rfl state_size ?_) | (refine wpList_load_blk_w (by rfl) _ _ rfl (k49) rfl _ _ b97 _ Tryz.underlying42 rfl rep_size ?_) | (refine wpList_load_blk_w (by rfl) _ _ rfl (k75) rfl _ _ b98 _ Tryz.underlying42 rfl rep_size ?_) | (refine wpList_load_blk_w (by rfl) _ _ rfl (k103) rfl _ _ b104 _ Tryz.underlying42 rfl rep_size ?_))
      refine (svState_any g10 r64.srv _ i99 OK63.out.1).mono ?_
      rintro e w113 ⟨q115a, q115b, q115c, d115a, d115b, d115c, rfl, o116, hb114⟩
      have b117 := b96.below hb114 b96.lt
      have b118 := b97.below hb114 b97.lt
      have b119 := b98.below hb114 b98.lt
      have b120 := b104.below hb114 b104.lt
      have i121 := i99.below hb114
      have i122 := i100.below hb114
      have c123 := c101.trans (hb114.mono c101.size)
      clear b96 b97 b98 b104 i99 i100 c101 hb114
      go_wp2_with (first | (refine wpList_load_blk_w (by rfl) _ _ rfl (w.heap.size) rfl _ _ b117 _ Tryz.underlying26 rfl state_size ?_) | (refine wpList_load_blk_w (by rfl) _ _ rfl (k49) rfl _ _ b118 _ Tryz.underlying42 rfl rep_size ?_) | (refine wpList_load_blk_w (by rfl) _ _ rfl (k75) rfl _ _ b119 _ Tryz.underlying42 rfl rep_size ?_) | (refine wpList_load_blk_w (by rfl) _ _ rfl (k103) rfl _ _ b120 _ Tryz.underlying42 rfl rep_size ?_))
      refine (svRest_any r64.srv.st q115a q115b q115c d115a d115b d115c _).mono ?_
      rintro e w124 ⟨rfl, hb125⟩
      have b126 := b117.below hb125 b117.lt
      have b127 := b118.below hb125 b118.lt
      have b128 := b119.below hb125 b119.lt
      have b129 := b120.below hb125 b120.lt
      have o130 := o116.below hb125
      have i131 := i121.below hb125
      have i132 := i122.below hb125
      have c133 := c123.trans (hb125.mono c123.size)
      clear b117 b118 b119 b120 o116 i121 i122 c123 hb125
      go_wp2_with (first | (refine wpList_load_blk_w (by rfl) _ _ rfl (w.heap.size) rfl _ _ b126 _ Tryz.underlying26 rfl state_size ?_) | (refine wpList_load_blk_w (by rfl) _ _ rfl (k49) rfl _ _ b127 _ Tryz.underlying42 rfl rep_size ?_) | (refine wpList_load_blk_w (by rfl) _ _ rfl (k75) rfl _ _ b128 _ Tryz.underlying42 rfl rep_size ?_) | (refine wpList_load_blk_w (by rfl) _ _ rfl (k103) rfl _ _ b129 _ Tryz.underlying42 rfl rep_size ?_))
      refine (svState_any g19 r91.srv _ i132 OK90.out.1).mono ?_
      rintro e w134 ⟨q136a, q136b, q136c, d136a, d136b, d136c, rfl, o137, hb135⟩
      have b138 := b126.below hb135 b126.lt
      have b139 := b127.below hb135 b127.lt
      have b140 := b128.below hb135 b128.lt
      have b141 := b129.below hb135 b129.lt
      have o142 := o130.below hb135
      have i143 := i131.below hb135
      have i144 := i132.below hb135
      have c145 := c133.trans (hb135.mono c133.size)
      clear b126 b127 b128 b129 o130 i131 i132 c133 hb135
      go_wp2_with (first | (refine wpList_load_blk_w (by rfl) _ _ rfl (w.heap.size) rfl _ _ b138 _ Tryz.underlying26 rfl state_size ?_) | (refine wpList_load_blk_w (by rfl) _ _ rfl (k49) rfl _ _ b139 _ Tryz.underlying42 rfl rep_size ?_) | (refine wpList_load_blk_w (by rfl) _ _ rfl (k75) rfl _ _ b140 _ Tryz.underlying42 rfl rep_size ?_) | (refine wpList_load_blk_w (by rfl) _ _ rfl (k103) rfl _ _ b141 _ Tryz.underlying42 rfl rep_size ?_))
      refine (svRest_any r91.srv.st q136a q136b q136c d136a d136b d136c _).mono ?_
      rintro e w146 ⟨rfl, hb147⟩
      have b148 := b138.below hb147 b138.lt
      have b149 := b139.below hb147 b139.lt
      have b150 := b140.below hb147 b140.lt
      have b151 := b141.below hb147 b141.lt
      have o152 := o142.below hb147
      have o153 := o137.below hb147
      have i154 := i143.below hb147
      have i155 := i144.below hb147
      have c156 := c145.trans (hb147.mono c145.size)
      clear b138 b139 b140 b141 o142 o137 i143 i144 c145 hb147
      go_wp2_with (first | (refine wpList_load_blk_w (by rfl) _ _ rfl (w.heap.size) rfl _ _ b148 _ Tryz.underlying26 rfl state_size ?_) | (refine wpList_load_blk_w (by rfl) _ _ rfl (k49) rfl _ _ b149 _ Tryz.underlying42 rfl rep_size ?_) | (refine wpList_load_blk_w (by rfl) _ _ rfl (k75) rfl _ _ b150 _ Tryz.underlying42 rfl rep_size ?_) | (refine wpList_load_blk_w (by rfl) _ _ rfl (k103) rfl _ _ b151 _ Tryz.underlying42 rfl rep_size ?_))
      have HEQ := Lib.hid (show ({ r64.srv.st with rev := 0 } : St) = ({ r91.srv.st with rev := 0 } : St) from by rw [St.mk.injEq]; exact ⟨rfl, HS3.out⟩)
      have HR := Lib.hid (same_any ({ r64.srv.st with rev := 0 } : St) ({ r91.srv.st with rev := 0 } : St) q115a q115b q115c q136a q136b q136c d115a d115b d115c d136a d136b d136c _ ⟨o152.m.j, o152.m.n, o152.m.l⟩ ⟨o153.m.j, o153.m.n, o153.m.l⟩ (szr OK63.out.1.sz) (szr OK90.out.1.sz))
      rw [decide_eq_true HEQ.out] at HR
      refine (HR.out).mono ?_
      rintro e w157 ⟨rfl, hb158⟩
      have b159 := b148.below hb158 b148.lt
      have b160 := b149.below hb158 b149.lt
      have b161 := b150.below hb158 b150.lt
      have b162 := b151.below hb158 b151.lt
      have o163 := o152.below hb158
      have o164 := o153.below hb158
      have i165 := i154.below hb158
      have i166 := i155.below hb158
      have c167 := c156.trans (hb158.mono c156.size)
      clear b148 b149 b150 b151 o152 o153 i154 i155 c156 hb158
      go_wp2_with fail
      go_ret
      exact ⟨rfl, c167⟩
    · have hT2 := HP.out
      rw [if_neg hk] at hT2
      have hgt : decide ((1099511627773 : Int) < s0.rev) = true := decide_eq_true hT2
      clear hT2 HP
      by_cases hca : ca = 0
      rotate_left
      · have hneca : (((ca : Nat) : Int) != 0) = true := by rw [bne_iff_ne]; omega
        clear hca hk
        go_wp2_with fail
        go_ret
        exact ⟨rfl, c101⟩
      subst hca
      by_cases hcb : cb = 0
      rotate_left
      · have hnecb : (((cb : Nat) : Int) != 0) = true := by rw [bne_iff_ne]; omega
        clear hcb hk
        go_wp2_with fail
        go_ret
        exact ⟨rfl, c101⟩
      subst hcb
      have hnec : (((cc_ : Nat) : Int) != 0) = true := by rw [bne_iff_ne]; intro e; exact hk ⟨rfl, rfl, by omega⟩
      clear hk
      go_wp2_with fail
      go_ret
      exact ⟨rfl, c101⟩
  · have HB := Lib.hid hE
    have hne : (((checkE s0 : Nat) : Int) != 0) = true := by rw [bne_iff_ne]; omega
    clear hE
    go_enter Tryz.func9, Tryz.ntmps9
    go_wp2_with fail
    generalize w.alloc _ = W3 at *
    refine (served_any _ (HT.out.below c2)).mono ?_
    rintro e w4 ⟨rfl, hb5⟩
    have b6 := b1.below hb5 b1.lt
    have c7 := c2.trans (hb5.mono c2.size)
    clear b1 c2 hb5
    go_wp2_with (first | (refine wpList_load_blk_w (by rfl) _ _ rfl (w.heap.size) rfl _ _ b6 _ Tryz.underlying26 rfl state_size ?_))
    refine (HR1.out _).mono ?_
    rintro e wy ⟨rfl, rfl⟩
    go_wp2_with (first | (refine wpList_load_blk_w (by rfl) _ _ rfl (w.heap.size) rfl _ _ b6 _ Tryz.underlying26 rfl state_size ?_))
    refine (HR2.out _).mono ?_
    rintro e wy ⟨rfl, rfl⟩
    go_wp2_with (first | (refine wpList_load_blk_w (by rfl) _ _ rfl (w.heap.size) rfl _ _ b6 _ Tryz.underlying26 rfl state_size ?_))
    refine (svNew_bad s0 pj0 pn0 pl0 cj0 cn0 cl0 _ ((HM0.out.below c7).more c7.size) HZ0.out (HT.out.below c7) HB.out).mono ?_
    rintro e w8 ⟨rfl, hb9⟩
    have b10 := b6.below hb9 b6.lt
    have c11 := c7.trans (hb9.mono c7.size)
    clear b6 c7 hb9
    go_wp2_with (first | (refine wpList_load_blk_w (by rfl) _ _ rfl (w.heap.size) rfl _ _ b10 _ Tryz.underlying26 rfl state_size ?_))
    refine (svNew_bad s0 pj0 pn0 pl0 cj0 cn0 cl0 _ ((HM0.out.below c11).more c11.size) HZ0.out (HT.out.below c11) HB.out).mono ?_
    rintro e w12 ⟨rfl, hb13⟩
    have b14 := b10.below hb13 b10.lt
    have c15 := c11.trans (hb13.mono c11.size)
    clear b10 c11 hb13
    go_wp2_with fail
    go_ret
    exact ⟨rfl, c15⟩
end Go.Proofs.YtffddjdfpggglaaGreatDoor.serveTicks
