/-
  The law JSONBack of package brackenkeep: for every input it answers true.
-/
import Derived.Test.YtdicoepjkngikaaDoorRows
import Derived.Test.YtdicoepjkngikaaDoorPkBase
import Derived.Test.YtdicoepjkngikaaDoorPkLaidJ
import Derived.BigQuiet
import Derived.Test.YtdicoepjkngikaaDoorPkJsY
import Derived.Test.YtdicoepjkngikaaDoorPkStateB
set_option linter.unusedVariables false
set_option linter.unusedSimpArgs false
namespace Go.Proofs.YtdicoepjkngikaaDoor.jSONBack
open Go.ChangeShapes Go.WideShapes Go.ChangeAt Go.RowKit Go.Joins
open Go.ChangeMaps (open_string)
set_option maxHeartbeats 8000000 in
set_option maxRecDepth 100000 in
theorem walk (s0 : St) (pj0 pn0 pl0 : Option Addr) (cj0 cn0 cl0 : Nat) (w : World) (hm0 : StM w w.heap.size pj0 pn0 pl0 s0) (hk0 : StOk s0) (b : ByteArray) (hbs : b.size ≤ 140737488351232) (hT : LibJ w.heap.size w) :
    Calls Tryd.prog 3 #[.agg #[Value.int .i64 s0.rev, Value.slice pj0 s0.jobs.length cj0, Value.slice pn0 s0.nodes.length cn0, Value.slice pl0 s0.leases.length cl0], .string b] w fun e w' => e = .returned (.bool true) ∧ Below w.heap.size w w' := by
  have bb0 := Blk.new w 26 #[Value.int .i64 s0.rev, Value.slice pj0 s0.jobs.length cj0, Value.slice pn0 s0.nodes.length cn0, Value.slice pl0 s0.leases.length cl0]
  have cc : Below w.heap.size w (w.alloc (.cells #[Value.int .i64 s0.rev, Value.slice pj0 s0.jobs.length cj0, Value.slice pn0 s0.nodes.length cn0, Value.slice pl0 s0.leases.length cl0] 26)) := (Below.refl _ _).alloc (by simp) (.cells #[Value.int .i64 s0.rev, Value.slice pj0 s0.jobs.length cj0, Value.slice pn0 s0.nodes.length cn0, Value.slice pl0 s0.leases.length cl0] 26)
  have HM0 := Lib.hid hm0
  have HZ0 := Lib.hid hk0.sz
  have HT := Lib.hid hT
  have hzs := zero_st_lit
  have z0 : (((0 : Nat) : Int) != 0) = false := rfl
  have z1 : (((0 : Nat) : Int) == 0) = true := rfl
  have HPr := Lib.hid (fun (W : World) (hW : Below w.heap.size w W) => Print_any s0 pj0 pn0 pl0 cj0 cn0 cl0 W ((HM0.out.below hW).more hW.size) HZ0.out (HT.out.atP hW))
  have HCk := Lib.hid (fun (W : World) (hW : Below w.heap.size w W) => stCheck_any s0 pj0 pn0 pl0 cj0 cn0 cl0 W ((HM0.out.below hW).more hW.size) HZ0.out (HT.out.atT hW))
  clear hT hm0 hk0
  have HPa := Lib.hid (fun (W : World) (hW : Below w.heap.size w W) => parse_str b W (HT.out.at_ hW))
  by_cases hE : checkE s0 = 0
  · have F := (fine_iff s0).1 hE
    have hpr : printE s0 = printL s0 := by unfold printE; rw [if_pos hE]
    rw [hpr, hE] at HPr
    rw [hE] at HCk
    have hus : (bstr (printL s0)).size = (printL s0).length := bstr_size _
    clear hpr hE
    by_cases hl : (printL s0).length ≤ 60000
    · have HPs := Lib.hid (fun (W : World) (hW : Below w.heap.size w W) => parse_of s0 F hl W (HT.out.at_ hW))
      have hul : ((bstr (printL s0)).size : Int) ≤ 60000 := by omega
      generalize bstr (printL s0) = u at *
      clear hl F hus
      by_cases hpe : parseE b.data.toList = 0
      · obtain ⟨hc, hp⟩ := parse_t0 hpe
        have HPb := Lib.hid (fun (W : World) q1 q2 q3 d1 d2 d3 (hm : StM W W.heap.size q1 q2 q3 (parseS b.data.toList)) (hP : LibP W.heap.size W) => Print_any (parseS b.data.toList) q1 q2 q3 d1 d2 d3 W hm ((fine_iff _).1 hc).sz hP)
        have hpr : bstr (printE (parseS b.data.toList)) = b := by unfold printE; rw [if_pos hc, hp, bstr_self]
        rw [hpr, hc] at HPb
        rw [hpe] at HPa
        generalize parseS b.data.toList = x at *
        clear hpr hp hc hpe
        have heq : (b.toList == b.toList) = true := by simp
        go_enter Tryd.func3, Tryd.ntmps3
        go_wp2_with fail
        generalize w.alloc _ = W0 at *
        refine (printedF_any _ (HT.out.atP cc)).mono ?_
        rintro e w1 ⟨rfl, hb2⟩
        have b3 := bb0.below hb2 bb0.lt
        have c4 := cc.trans (hb2.mono cc.size)
        clear bb0 cc hb2
        go_wp2_with (first | (refine wpList_load_blk_w (by rfl) _ _ rfl (w.heap.size) rfl _ #[Value.int .i64 s0.rev, Value.slice pj0 s0.jobs.length cj0, Value.slice pn0 s0.nodes.length cn0, Value.slice pl0 s0.leases.length cl0] b3 _ Tryd.underlying26 rfl state_size4 ?_))
        refine (HPr.out _ c4).mono ?_
        rintro e w5 ⟨rfl, hb6⟩
        have b7 := b3.below hb6 b3.lt
        have c8 := c4.trans (hb6.mono c4.size)
        clear b3 c4 hb6
        go_wp2_with (first | (refine wpList_load_blk_w (by rfl) _ _ rfl (w.heap.size) rfl _ #[Value.int .i64 s0.rev, Value.slice pj0 s0.jobs.length cj0, Value.slice pn0 s0.nodes.length cn0, Value.slice pl0 s0.leases.length cl0] b7 _ Tryd.underlying26 rfl state_size4 ?_))
        refine (HCk.out _ c8).mono ?_
        rintro e w9 ⟨rfl, hb10⟩
        have b11 := b7.below hb10 b7.lt
        have c12 := c8.trans (hb10.mono c8.size)
        clear b7 c8 hb10
        go_wp2_with (first | (refine wpList_load_blk_w (by rfl) _ _ rfl (w.heap.size) rfl _ #[Value.int .i64 s0.rev, Value.slice pj0 s0.jobs.length cj0, Value.slice pn0 s0.nodes.length cn0, Value.slice pl0 s0.leases.length cl0] b11 _ Tryd.underlying26 rfl state_size4 ?_))
        refine (HPs.out _ c12).mono ?_
        rintro e w14 ⟨q1a, q1b, q1c, d1a, d1b, d1c, rfl, m13, hb15⟩
        have b16 := b11.below hb15 b11.lt
        have c17 := c12.trans (hb15.mono c12.size)
        clear b11 c12 hb15
        have hb18 : Below w14.heap.size w14 (w14.alloc (.cells #[Value.int .i64 s0.rev, Value.slice q1a s0.jobs.length d1a, Value.slice q1b s0.nodes.length d1b, Value.slice q1c s0.leases.length d1c] 26)) := (Below.refl _ _).alloc (Nat.le_refl _) _
        have b19 := Blk.new w14 26 #[Value.int .i64 s0.rev, Value.slice q1a s0.jobs.length d1a, Value.slice q1b s0.nodes.length d1b, Value.slice q1c s0.leases.length d1c]
        have b20 := b16.below hb18 b16.lt
        have m21 := (m13.below hb18).more hb18.size
        have c22 := c17.trans (hb18.mono c17.size)
        clear b16 m13 c17 hb18
        go_wp2_with (first | (refine wpList_store_new rfl _ _ _ rfl rfl 26 _ #[Value.int .i64 s0.rev, Value.slice q1a s0.jobs.length d1a, Value.slice q1b s0.nodes.length d1b, Value.slice q1c s0.leases.length d1c] rfl state_size4 rfl (one_stJ _ _ _ _ _ _ _ _ _ _) ?_) | (first | (refine wpList_load_blk_w (by rfl) _ _ rfl (w.heap.size) rfl _ #[Value.int .i64 s0.rev, Value.slice pj0 s0.jobs.length cj0, Value.slice pn0 s0.nodes.length cn0, Value.slice pl0 s0.leases.length cl0] b20 _ Tryd.underlying26 rfl state_size4 ?_) | (refine wpList_load_blk_w (by rfl) _ _ rfl (w14.heap.size) rfl _ #[Value.int .i64 s0.rev, Value.slice q1a s0.jobs.length d1a, Value.slice q1b s0.nodes.length d1b, Value.slice q1c s0.leases.length d1c] b19 _ Tryd.underlying26 rfl state_size4 ?_)))
        generalize w14.alloc _ = W23 at *
        generalize w14.heap.size = g24 at *
        go_wp2_with (first | (refine wpList_load_blk_w (by rfl) _ _ rfl (w.heap.size) rfl _ #[Value.int .i64 s0.rev, Value.slice pj0 s0.jobs.length cj0, Value.slice pn0 s0.nodes.length cn0, Value.slice pl0 s0.leases.length cl0] b20 _ Tryd.underlying26 rfl state_size4 ?_) | (refine wpList_load_blk_w (by rfl) _ _ rfl (g24) rfl _ #[Value.int .i64 s0.rev, Value.slice q1a s0.jobs.length d1a, Value.slice q1b s0.nodes.length d1b, Value.slice q1c s0.leases.length d1c] b19 _ Tryd.underlying26 rfl state_size4 ?_))
        have hS := same_any s0 s0 q1a q1b q1c pj0 pn0 pl0 d1a d1b d1c cj0 cn0 cl0 _ m21 ((HM0.out.below c22).more c22.size) HZ0.out HZ0.out
        rw [decide_eq_true rfl] at hS
        refine (hS).mono ?_
        rintro e w25 ⟨rfl, hb26⟩
        have b27 := b20.below hb26 b20.lt
        have b28 := b19.below hb26 b19.lt
        have m29 := (m21.below hb26).more hb26.size
        have c30 := c22.trans (hb26.mono c22.size)
        clear b20 b19 m21 c22 hb26
        go_wp2_with (first | (refine wpList_load_blk_w (by rfl) _ _ rfl (w.heap.size) rfl _ #[Value.int .i64 s0.rev, Value.slice pj0 s0.jobs.length cj0, Value.slice pn0 s0.nodes.length cn0, Value.slice pl0 s0.leases.length cl0] b27 _ Tryd.underlying26 rfl state_size4 ?_) | (refine wpList_load_blk_w (by rfl) _ _ rfl (g24) rfl _ #[Value.int .i64 s0.rev, Value.slice q1a s0.jobs.length d1a, Value.slice q1b s0.nodes.length d1b, Value.slice q1c s0.leases.length d1c] b28 _ Tryd.underlying26 rfl state_size4 ?_))
        refine (HPa.out _ c30).mono ?_
        rintro e w32 ⟨q2a, q2b, q2c, d2a, d2b, d2c, rfl, m31, hb33⟩
        have b34 := b27.below hb33 b27.lt
        have b35 := b28.below hb33 b28.lt
        have m36 := (m29.below hb33).more hb33.size
        have c37 := c30.trans (hb33.mono c30.size)
        clear b27 b28 m29 c30 hb33
        have hb38 : Below w32.heap.size w32 (w32.alloc (.cells #[Value.int .i64 x.rev, Value.slice q2a x.jobs.length d2a, Value.slice q2b x.nodes.length d2b, Value.slice q2c x.leases.length d2c] 26)) := (Below.refl _ _).alloc (Nat.le_refl _) _
        have b39 := Blk.new w32 26 #[Value.int .i64 x.rev, Value.slice q2a x.jobs.length d2a, Value.slice q2b x.nodes.length d2b, Value.slice q2c x.leases.length d2c]
        have b40 := b34.below hb38 b34.lt
        have b41 := b35.below hb38 b35.lt
        have m42 := (m36.below hb38).more hb38.size
        have m43 := (m31.below hb38).more hb38.size
        have c44 := c37.trans (hb38.mono c37.size)
        clear b34 b35 m36 m31 c37 hb38
        go_wp2_with (first | (refine wpList_store_new rfl _ _ _ rfl rfl 26 _ #[Value.int .i64 x.rev, Value.slice q2a x.jobs.length d2a, Value.slice q2b x.nodes.length d2b, Value.slice q2c x.leases.length d2c] rfl state_size4 rfl (one_stJ _ _ _ _ _ _ _ _ _ _) ?_) | (first | (refine wpList_load_blk_w (by rfl) _ _ rfl (w.heap.size) rfl _ #[Value.int .i64 s0.rev, Value.slice pj0 s0.jobs.length cj0, Value.slice pn0 s0.nodes.length cn0, Value.slice pl0 s0.leases.length cl0] b40 _ Tryd.underlying26 rfl state_size4 ?_) | (refine wpList_load_blk_w (by rfl) _ _ rfl (g24) rfl _ #[Value.int .i64 s0.rev, Value.slice q1a s0.jobs.length d1a, Value.slice q1b s0.nodes.length d1b, Value.slice q1c s0.leases.length d1c] b41 _ Tryd.underlying26 rfl state_size4 ?_) | (refine wpList_load_blk_w (by rfl) _ _ rfl (w32.heap.size) rfl _ #[Value.int .i64 x.rev, Value.slice q2a x.jobs.length d2a, Value.slice q2b x.nodes.length d2b, Value.slice q2c x.leases.length d2c] b39 _ Tryd.underlying26 rfl state_size4 ?_)))
        generalize w32.alloc _ = W45 at *
        generalize w32.heap.size = g46 at *
        refine (HPb.out _ _ _ _ _ _ _ m43 (HT.out.atP c44)).mono ?_
        rintro e w47 ⟨rfl, hb48⟩
        have b49 := b40.below hb48 b40.lt
        have b50 := b41.below hb48 b41.lt
        have b51 := b39.below hb48 b39.lt
        have m52 := (m42.below hb48).more hb48.size
        have m53 := (m43.below hb48).more hb48.size
        have c54 := c44.trans (hb48.mono c44.size)
        clear b40 b41 b39 m42 m43 c44 hb48
        go_wp2_with (first | (refine wpList_load_blk_w (by rfl) _ _ rfl (w.heap.size) rfl _ #[Value.int .i64 s0.rev, Value.slice pj0 s0.jobs.length cj0, Value.slice pn0 s0.nodes.length cn0, Value.slice pl0 s0.leases.length cl0] b49 _ Tryd.underlying26 rfl state_size4 ?_) | (refine wpList_load_blk_w (by rfl) _ _ rfl (g24) rfl _ #[Value.int .i64 s0.rev, Value.slice q1a s0.jobs.length d1a, Value.slice q1b s0.nodes.length d1b, Value.slice q1c s0.leases.length d1c] b50 _ Tryd.underlying26 rfl state_size4 ?_) | (refine wpList_load_blk_w (by rfl) _ _ rfl (g46) rfl _ #[Value.int .i64 x.rev, Value.slice q2a x.jobs.length d2a, Value.slice q2b x.nodes.length d2b, Value.slice q2c x.leases.length d2c] b51 _ Tryd.underlying26 rfl state_size4 ?_))
        go_ret
        exact ⟨rfl, c54⟩
      · have hs := parse_t1 hpe
        rw [hs] at HPa
        have hf1 : ((parseE b.data.toList : Int) == 0) = false := by rw [beq_eq_false_iff_ne]; omega
        have hf2 : ((parseE b.data.toList : Int) != 0) = true := by rw [bne_iff_ne]; omega
        generalize parseE b.data.toList = er at *
        clear hs hpe
        go_enter Tryd.func3, Tryd.ntmps3
        go_wp2_with fail
        generalize w.alloc _ = W0 at *
        refine (printedF_any _ (HT.out.atP cc)).mono ?_
        rintro e w1 ⟨rfl, hb2⟩
        have b3 := bb0.below hb2 bb0.lt
        have c4 := cc.trans (hb2.mono cc.size)
        clear bb0 cc hb2
        go_wp2_with (first | (refine wpList_load_blk_w (by rfl) _ _ rfl (w.heap.size) rfl _ #[Value.int .i64 s0.rev, Value.slice pj0 s0.jobs.length cj0, Value.slice pn0 s0.nodes.length cn0, Value.slice pl0 s0.leases.length cl0] b3 _ Tryd.underlying26 rfl state_size4 ?_))
        refine (HPr.out _ c4).mono ?_
        rintro e w5 ⟨rfl, hb6⟩
        have b7 := b3.below hb6 b3.lt
        have c8 := c4.trans (hb6.mono c4.size)
        clear b3 c4 hb6
        go_wp2_with (first | (refine wpList_load_blk_w (by rfl) _ _ rfl (w.heap.size) rfl _ #[Value.int .i64 s0.rev, Value.slice pj0 s0.jobs.length cj0, Value.slice pn0 s0.nodes.length cn0, Value.slice pl0 s0.leases.length cl0] b7 _ Tryd.underlying26 rfl state_size4 ?_))
        refine (HCk.out _ c8).mono ?_
        rintro e w9 ⟨rfl, hb10⟩
        have b11 := b7.below hb10 b7.lt
        have c12 := c8.trans (hb10.mono c8.size)
        clear b7 c8 hb10
        go_wp2_with (first | (refine wpList_load_blk_w (by rfl) _ _ rfl (w.heap.size) rfl _ #[Value.int .i64 s0.rev, Value.slice pj0 s0.jobs.length cj0, Value.slice pn0 s0.nodes.length cn0, Value.slice pl0 s0.leases.length cl0] b11 _ Tryd.underlying26 rfl state_size4 ?_))
        refine (HPs.out _ c12).mono ?_
        rintro e w14 ⟨q3a, q3b, q3c, d3a, d3b, d3c, rfl, m13, hb15⟩
        have b16 := b11.below hb15 b11.lt
        have c17 := c12.trans (hb15.mono c12.size)
        clear b11 c12 hb15
        have hb18 : Below w14.heap.size w14 (w14.alloc (.cells #[Value.int .i64 s0.rev, Value.slice q3a s0.jobs.length d3a, Value.slice q3b s0.nodes.length d3b, Value.slice q3c s0.leases.length d3c] 26)) := (Below.refl _ _).alloc (Nat.le_refl _) _
        have b19 := Blk.new w14 26 #[Value.int .i64 s0.rev, Value.slice q3a s0.jobs.length d3a, Value.slice q3b s0.nodes.length d3b, Value.slice q3c s0.leases.length d3c]
        have b20 := b16.below hb18 b16.lt
        have m21 := (m13.below hb18).more hb18.size
        have c22 := c17.trans (hb18.mono c17.size)
        clear b16 m13 c17 hb18
        go_wp2_with (first | (refine wpList_store_new rfl _ _ _ rfl rfl 26 _ #[Value.int .i64 s0.rev, Value.slice q3a s0.jobs.length d3a, Value.slice q3b s0.nodes.length d3b, Value.slice q3c s0.leases.length d3c] rfl state_size4 rfl (one_stJ _ _ _ _ _ _ _ _ _ _) ?_) | (first | (refine wpList_load_blk_w (by rfl) _ _ rfl (w.heap.size) rfl _ #[Value.int .i64 s0.rev, Value.slice pj0 s0.jobs.length cj0, Value.slice pn0 s0.nodes.length cn0, Value.slice pl0 s0.leases.length cl0] b20 _ Tryd.underlying26 rfl state_size4 ?_) | (refine wpList_load_blk_w (by rfl) _ _ rfl (w14.heap.size) rfl _ #[Value.int .i64 s0.rev, Value.slice q3a s0.jobs.length d3a, Value.slice q3b s0.nodes.length d3b, Value.slice q3c s0.leases.length d3c] b19 _ Tryd.underlying26 rfl state_size4 ?_)))
        generalize w14.alloc _ = W23 at *
        generalize w14.heap.size = g24 at *
        go_wp2_with (first | (refine wpList_load_blk_w (by rfl) _ _ rfl (w.heap.size) rfl _ #[Value.int .i64 s0.rev, Value.slice pj0 s0.jobs.length cj0, Value.slice pn0 s0.nodes.length cn0, Value.slice pl0 s0.leases.length cl0] b20 _ Tryd.underlying26 rfl state_size4 ?_) | (refine wpList_load_blk_w (by rfl) _ _ rfl (g24) rfl _ #[Value.int .i64 s0.rev, Value.slice q3a s0.jobs.length d3a, Value.slice q3b s0.nodes.length d3b, Value.slice q3c s0.leases.length d3c] b19 _ Tryd.underlying26 rfl state_size4 ?_))
        have hS := same_any s0 s0 q3a q3b q3c pj0 pn0 pl0 d3a d3b d3c cj0 cn0 cl0 _ m21 ((HM0.out.below c22).more c22.size) HZ0.out HZ0.out
        rw [decide_eq_true rfl] at hS
        refine (hS).mono ?_
        rintro e w25 ⟨rfl, hb26⟩
        have b27 := b20.below hb26 b20.lt
        have b28 := b19.below hb26 b19.lt
        have m29 := (m21.below hb26).more hb26.size
        have c30 := c22.trans (hb26.mono c22.size)
        clear b20 b19 m21 c22 hb26
        go_wp2_with (first | (refine wpList_load_blk_w (by rfl) _ _ rfl (w.heap.size) rfl _ #[Value.int .i64 s0.rev, Value.slice pj0 s0.jobs.length cj0, Value.slice pn0 s0.nodes.length cn0, Value.slice pl0 s0.leases.length cl0] b27 _ Tryd.underlying26 rfl state_size4 ?_) | (refine wpList_load_blk_w (by rfl) _ _ rfl (g24) rfl _ #[Value.int .i64 s0.rev, Value.slice q3a s0.jobs.length d3a, Value.slice q3b s0.nodes.length d3b, Value.slice q3c s0.leases.length d3c] b28 _ Tryd.underlying26 rfl state_size4 ?_))
        refine (HPa.out _ c30).mono ?_
        rintro e w32 ⟨q4a, q4b, q4c, d4a, d4b, d4c, rfl, m31, hb33⟩
        have b34 := b27.below hb33 b27.lt
        have b35 := b28.below hb33 b28.lt
        have m36 := (m29.below hb33).more hb33.size
        have c37 := c30.trans (hb33.mono c30.size)
        clear b27 b28 m29 c30 hb33
        have hb38 : Below w32.heap.size w32 (w32.alloc (.cells #[Value.int .i64 noSt.rev, Value.slice q4a noSt.jobs.length d4a, Value.slice q4b noSt.nodes.length d4b, Value.slice q4c noSt.leases.length d4c] 26)) := (Below.refl _ _).alloc (Nat.le_refl _) _
        have b39 := Blk.new w32 26 #[Value.int .i64 noSt.rev, Value.slice q4a noSt.jobs.length d4a, Value.slice q4b noSt.nodes.length d4b, Value.slice q4c noSt.leases.length d4c]
        have b40 := b34.below hb38 b34.lt
        have b41 := b35.below hb38 b35.lt
        have m42 := (m36.below hb38).more hb38.size
        have m43 := (m31.below hb38).more hb38.size
        have c44 := c37.trans (hb38.mono c37.size)
        clear b34 b35 m36 m31 c37 hb38
        go_wp2_with (first | (refine wpList_store_new rfl _ _ _ rfl rfl 26 _ #[Value.int .i64 noSt.rev, Value.slice q4a noSt.jobs.length d4a, Value.slice q4b noSt.nodes.length d4b, Value.slice q4c noSt.leases.length d4c] rfl state_size4 rfl (one_stJ _ _ _ _ _ _ _ _ _ _) ?_) | (first | (refine wpList_load_blk_w (by rfl) _ _ rfl (w.heap.size) rfl _ #[Value.int .i64 s0.rev, Value.slice pj0 s0.jobs.length cj0, Value.slice pn0 s0.nodes.length cn0, Value.slice pl0 s0.leases.length cl0] b40 _ Tryd.underlying26 rfl state_size4 ?_) | (refine wpList_load_blk_w (by rfl) _ _ rfl (g24) rfl _ #[Value.int .i64 s0.rev, Value.slice q3a s0.jobs.length d3a, Value.slice q3b s0.nodes.length d3b, Value.slice q3c s0.leases.length d3c] b41 _ Tryd.underlying26 rfl state_size4 ?_) | (refine wpList_load_blk_w (by rfl) _ _ rfl (w32.heap.size) rfl _ #[Value.int .i64 noSt.rev, Value.slice q4a noSt.jobs.length d4a, Value.slice q4b noSt.nodes.length d4b, Value.slice q4c noSt.leases.length d4c] b39 _ Tryd.underlying26 rfl state_size4 ?_)))
        generalize w32.alloc _ = W45 at *
        generalize w32.heap.size = g46 at *
        refine (Print_any noSt _ _ _ _ _ _ _ m43 noSt_sz (HT.out.atP c44)).mono ?_
        rintro e w47 ⟨rfl, hb48⟩
        have b49 := b40.below hb48 b40.lt
        have b50 := b41.below hb48 b41.lt
        have b51 := b39.below hb48 b39.lt
        have m52 := (m42.below hb48).more hb48.size
        have m53 := (m43.below hb48).more hb48.size
        have c54 := c44.trans (hb48.mono c44.size)
        clear b40 b41 b39 m42 m43 c44 hb48
        go_wp2_with (first | (refine wpList_load_blk_w (by rfl) _ _ rfl (w.heap.size) rfl _ #[Value.int .i64 s0.rev, Value.slice pj0 s0.jobs.length cj0, Value.slice pn0 s0.nodes.length cn0, Value.slice pl0 s0.leases.length cl0] b49 _ Tryd.underlying26 rfl state_size4 ?_) | (refine wpList_load_blk_w (by rfl) _ _ rfl (g24) rfl _ #[Value.int .i64 s0.rev, Value.slice q3a s0.jobs.length d3a, Value.slice q3b s0.nodes.length d3b, Value.slice q3c s0.leases.length d3c] b50 _ Tryd.underlying26 rfl state_size4 ?_) | (refine wpList_load_blk_w (by rfl) _ _ rfl (g46) rfl _ #[Value.int .i64 noSt.rev, Value.slice q4a noSt.jobs.length d4a, Value.slice q4b noSt.nodes.length d4b, Value.slice q4c noSt.leases.length d4c] b51 _ Tryd.underlying26 rfl state_size4 ?_))
        have hS := same_any noSt noSt q4a q4b q4c none none none d4a d4b d4c 0 0 0 _ m53 (noSt_M _ _) noSt_sz noSt_sz
        rw [decide_eq_true rfl] at hS
        refine (hS).mono ?_
        rintro e w55 ⟨rfl, hb56⟩
        have b57 := b49.below hb56 b49.lt
        have b58 := b50.below hb56 b50.lt
        have b59 := b51.below hb56 b51.lt
        have m60 := (m52.below hb56).more hb56.size
        have m61 := (m53.below hb56).more hb56.size
        have c62 := c54.trans (hb56.mono c54.size)
        clear b49 b50 b51 m52 m53 c54 hb56
        go_wp2_with (first | (refine wpList_load_blk_w (by rfl) _ _ rfl (w.heap.size) rfl _ #[Value.int .i64 s0.rev, Value.slice pj0 s0.jobs.length cj0, Value.slice pn0 s0.nodes.length cn0, Value.slice pl0 s0.leases.length cl0] b57 _ Tryd.underlying26 rfl state_size4 ?_) | (refine wpList_load_blk_w (by rfl) _ _ rfl (g24) rfl _ #[Value.int .i64 s0.rev, Value.slice q3a s0.jobs.length d3a, Value.slice q3b s0.nodes.length d3b, Value.slice q3c s0.leases.length d3c] b58 _ Tryd.underlying26 rfl state_size4 ?_) | (refine wpList_load_blk_w (by rfl) _ _ rfl (g46) rfl _ #[Value.int .i64 noSt.rev, Value.slice q4a noSt.jobs.length d4a, Value.slice q4b noSt.nodes.length d4b, Value.slice q4c noSt.leases.length d4c] b59 _ Tryd.underlying26 rfl state_size4 ?_))
        go_ret
        exact ⟨rfl, c62⟩
    · have hul : ¬ ((bstr (printL s0)).size : Int) ≤ 60000 := by omega
      generalize bstr (printL s0) = u at *
      clear hl F hus
      by_cases hpe : parseE b.data.toList = 0
      · obtain ⟨hc, hp⟩ := parse_t0 hpe
        have HPb := Lib.hid (fun (W : World) q1 q2 q3 d1 d2 d3 (hm : StM W W.heap.size q1 q2 q3 (parseS b.data.toList)) (hP : LibP W.heap.size W) => Print_any (parseS b.data.toList) q1 q2 q3 d1 d2 d3 W hm ((fine_iff _).1 hc).sz hP)
        have hpr : bstr (printE (parseS b.data.toList)) = b := by unfold printE; rw [if_pos hc, hp, bstr_self]
        rw [hpr, hc] at HPb
        rw [hpe] at HPa
        generalize parseS b.data.toList = x at *
        clear hpr hp hc hpe
        have heq : (b.toList == b.toList) = true := by simp
        go_enter Tryd.func3, Tryd.ntmps3
        go_wp2_with fail
        generalize w.alloc _ = W0 at *
        refine (printedF_any _ (HT.out.atP cc)).mono ?_
        rintro e w1 ⟨rfl, hb2⟩
        have b3 := bb0.below hb2 bb0.lt
        have c4 := cc.trans (hb2.mono cc.size)
        clear bb0 cc hb2
        go_wp2_with (first | (refine wpList_load_blk_w (by rfl) _ _ rfl (w.heap.size) rfl _ #[Value.int .i64 s0.rev, Value.slice pj0 s0.jobs.length cj0, Value.slice pn0 s0.nodes.length cn0, Value.slice pl0 s0.leases.length cl0] b3 _ Tryd.underlying26 rfl state_size4 ?_))
        refine (HPr.out _ c4).mono ?_
        rintro e w5 ⟨rfl, hb6⟩
        have b7 := b3.below hb6 b3.lt
        have c8 := c4.trans (hb6.mono c4.size)
        clear b3 c4 hb6
        go_wp2_with (first | (refine wpList_load_blk_w (by rfl) _ _ rfl (w.heap.size) rfl _ #[Value.int .i64 s0.rev, Value.slice pj0 s0.jobs.length cj0, Value.slice pn0 s0.nodes.length cn0, Value.slice pl0 s0.leases.length cl0] b7 _ Tryd.underlying26 rfl state_size4 ?_))
        refine (HCk.out _ c8).mono ?_
        rintro e w9 ⟨rfl, hb10⟩
        have b11 := b7.below hb10 b7.lt
        have c12 := c8.trans (hb10.mono c8.size)
        clear b7 c8 hb10
        go_wp2_with (first | (refine wpList_load_blk_w (by rfl) _ _ rfl (w.heap.size) rfl _ #[Value.int .i64 s0.rev, Value.slice pj0 s0.jobs.length cj0, Value.slice pn0 s0.nodes.length cn0, Value.slice pl0 s0.leases.length cl0] b11 _ Tryd.underlying26 rfl state_size4 ?_))
        refine (HPa.out _ c12).mono ?_
        rintro e w14 ⟨q5a, q5b, q5c, d5a, d5b, d5c, rfl, m13, hb15⟩
        have b16 := b11.below hb15 b11.lt
        have c17 := c12.trans (hb15.mono c12.size)
        clear b11 c12 hb15
        have hb18 : Below w14.heap.size w14 (w14.alloc (.cells #[Value.int .i64 x.rev, Value.slice q5a x.jobs.length d5a, Value.slice q5b x.nodes.length d5b, Value.slice q5c x.leases.length d5c] 26)) := (Below.refl _ _).alloc (Nat.le_refl _) _
        have b19 := Blk.new w14 26 #[Value.int .i64 x.rev, Value.slice q5a x.jobs.length d5a, Value.slice q5b x.nodes.length d5b, Value.slice q5c x.leases.length d5c]
        have b20 := b16.below hb18 b16.lt
        have m21 := (m13.below hb18).more hb18.size
        have c22 := c17.trans (hb18.mono c17.size)
        clear b16 m13 c17 hb18
        go_wp2_with (first | (refine wpList_store_new rfl _ _ _ rfl rfl 26 _ #[Value.int .i64 x.rev, Value.slice q5a x.jobs.length d5a, Value.slice q5b x.nodes.length d5b, Value.slice q5c x.leases.length d5c] rfl state_size4 rfl (one_stJ _ _ _ _ _ _ _ _ _ _) ?_) | (first | (refine wpList_load_blk_w (by rfl) _ _ rfl (w.heap.size) rfl _ #[Value.int .i64 s0.rev, Value.slice pj0 s0.jobs.length cj0, Value.slice pn0 s0.nodes.length cn0, Value.slice pl0 s0.leases.length cl0] b20 _ Tryd.underlying26 rfl state_size4 ?_) | (refine wpList_load_blk_w (by rfl) _ _ rfl (w14.heap.size) rfl _ #[Value.int .i64 x.rev, Value.slice q5a x.jobs.length d5a, Value.slice q5b x.nodes.length d5b, Value.slice q5c x.leases.length d5c] b19 _ Tryd.underlying26 rfl state_size4 ?_)))
        generalize w14.alloc _ = W23 at *
        generalize w14.heap.size = g24 at *
        refine (HPb.out _ _ _ _ _ _ _ m21 (HT.out.atP c22)).mono ?_
        rintro e w25 ⟨rfl, hb26⟩
        have b27 := b20.below hb26 b20.lt
        have b28 := b19.below hb26 b19.lt
        have m29 := (m21.below hb26).more hb26.size
        have c30 := c22.trans (hb26.mono c22.size)
        clear b20 b19 m21 c22 hb26
        go_wp2_with (first | (refine wpList_load_blk_w (by rfl) _ _ rfl (w.heap.size) rfl _ #[Value.int .i64 s0.rev, Value.slice pj0 s0.jobs.length cj0, Value.slice pn0 s0.nodes.length cn0, Value.slice pl0 s0.leases.length cl0] b27 _ Tryd.underlying26 rfl state_size4 ?_) | (refine wpList_load_blk_w (by rfl) _ _ rfl (g24) rfl _ #[Value.int .i64 x.rev, Value.slice q5a x.jobs.length d5a, Value.slice q5b x.nodes.length d5b, Value.slice q5c x.leases.length d5c] b28 _ Tryd.underlying26 rfl state_size4 ?_))
        go_ret
        exact ⟨rfl, c30⟩
      · have hs := parse_t1 hpe
        rw [hs] at HPa
        have hf1 : ((parseE b.data.toList : Int) == 0) = false := by rw [beq_eq_false_iff_ne]; omega
        have hf2 : ((parseE b.data.toList : Int) != 0) = true := by rw [bne_iff_ne]; omega
        generalize parseE b.data.toList = er at *
        clear hs hpe
        go_enter Tryd.func3, Tryd.ntmps3
        go_wp2_with fail
        generalize w.alloc _ = W0 at *
        refine (printedF_any _ (HT.out.atP cc)).mono ?_
        rintro e w1 ⟨rfl, hb2⟩
        have b3 := bb0.below hb2 bb0.lt
        have c4 := cc.trans (hb2.mono cc.size)
        clear bb0 cc hb2
        go_wp2_with (first | (refine wpList_load_blk_w (by rfl) _ _ rfl (w.heap.size) rfl _ #[Value.int .i64 s0.rev, Value.slice pj0 s0.jobs.length cj0, Value.slice pn0 s0.nodes.length cn0, Value.slice pl0 s0.leases.length cl0] b3 _ Tryd.underlying26 rfl state_size4 ?_))
        refine (HPr.out _ c4).mono ?_
        rintro e w5 ⟨rfl, hb6⟩
        have b7 := b3.below hb6 b3.lt
        have c8 := c4.trans (hb6.mono c4.size)
        clear b3 c4 hb6
        go_wp2_with (first | (refine wpList_load_blk_w (by rfl) _ _ rfl (w.heap.size) rfl _ #[Value.int .i64 s0.rev, Value.slice pj0 s0.jobs.length cj0, Value.slice pn0 s0.nodes.length cn0, Value.slice pl0 s0.leases.length cl0] b7 _ Tryd.underlying26 rfl state_size4 ?_))
        refine (HCk.out _ c8).mono ?_
        rintro e w9 ⟨rfl, hb10⟩
        have b11 := b7.below hb10 b7.lt
        have c12 := c8.trans (hb10.mono c8.size)
        clear b7 c8 hb10
        go_wp2_with (first | (refine wpList_load_blk_w (by rfl) _ _ rfl (w.heap.size) rfl _ #[Value.int .i64 s0.rev, Value.slice pj0 s0.jobs.length cj0, Value.slice pn0 s0.nodes.length cn0, Value.slice pl0 s0.leases.length cl0] b11 _ Tryd.underlying26 rfl state_size4 ?_))
        refine (HPa.out _ c12).mono ?_
        rintro e w14 ⟨q6a, q6b, q6c, d6a, d6b, d6c, rfl, m13, hb15⟩
        have b16 := b11.below hb15 b11.lt
        have c17 := c12.trans (hb15.mono c12.size)
        clear b11 c12 hb15
        have hb18 : Below w14.heap.size w14 (w14.alloc (.cells #[Value.int .i64 noSt.rev, Value.slice q6a noSt.jobs.length d6a, Value.slice q6b noSt.nodes.length d6b, Value.slice q6c noSt.leases.length d6c] 26)) := (Below.refl _ _).alloc (Nat.le_refl _) _
        have b19 := Blk.new w14 26 #[Value.int .i64 noSt.rev, Value.slice q6a noSt.jobs.length d6a, Value.slice q6b noSt.nodes.length d6b, Value.slice q6c noSt.leases.length d6c]
        have b20 := b16.below hb18 b16.lt
        have m21 := (m13.below hb18).more hb18.size
        have c22 := c17.trans (hb18.mono c17.size)
        clear b16 m13 c17 hb18
        go_wp2_with (first | (refine wpList_store_new rfl _ _ _ rfl rfl 26 _ #[Value.int .i64 noSt.rev, Value.slice q6a noSt.jobs.length d6a, Value.slice q6b noSt.nodes.length d6b, Value.slice q6c noSt.leases.length d6c] rfl state_size4 rfl (one_stJ _ _ _ _ _ _ _ _ _ _) ?_) | (first | (refine wpList_load_blk_w (by rfl) _ _ rfl (w.heap.size) rfl _ #[Value.int .i64 s0.rev, Value.slice pj0 s0.jobs.length cj0, Value.slice pn0 s0.nodes.length cn0, Value.slice pl0 s0.leases.length cl0] b20 _ Tryd.underlying26 rfl state_size4 ?_) | (refine wpList_load_blk_w (by rfl) _ _ rfl (w14.heap.size) rfl _ #[Value.int .i64 noSt.rev, Value.slice q6a noSt.jobs.length d6a, Value.slice q6b noSt.nodes.length d6b, Value.slice q6c noSt.leases.length d6c] b19 _ Tryd.underlying26 rfl state_size4 ?_)))
        generalize w14.alloc _ = W23 at *
        generalize w14.heap.size = g24 at *
        refine (Print_any noSt _ _ _ _ _ _ _ m21 noSt_sz (HT.out.atP c22)).mono ?_
        rintro e w25 ⟨rfl, hb26⟩
        have b27 := b20.below hb26 b20.lt
        have b28 := b19.below hb26 b19.lt
        have m29 := (m21.below hb26).more hb26.size
        have c30 := c22.trans (hb26.mono c22.size)
        clear b20 b19 m21 c22 hb26
        go_wp2_with (first | (refine wpList_load_blk_w (by rfl) _ _ rfl (w.heap.size) rfl _ #[Value.int .i64 s0.rev, Value.slice pj0 s0.jobs.length cj0, Value.slice pn0 s0.nodes.length cn0, Value.slice pl0 s0.leases.length cl0] b27 _ Tryd.underlying26 rfl state_size4 ?_) | (refine wpList_load_blk_w (by rfl) _ _ rfl (g24) rfl _ #[Value.int .i64 noSt.rev, Value.slice q6a noSt.jobs.length d6a, Value.slice q6b noSt.nodes.length d6b, Value.slice q6c noSt.leases.length d6c] b28 _ Tryd.underlying26 rfl state_size4 ?_))
        have hS := same_any noSt noSt q6a q6b q6c none none none d6a d6b d6c 0 0 0 _ m29 (noSt_M _ _) noSt_sz noSt_sz
        rw [decide_eq_true rfl] at hS
        refine (hS).mono ?_
        rintro e w31 ⟨rfl, hb32⟩
        have b33 := b27.below hb32 b27.lt
        have b34 := b28.below hb32 b28.lt
        have m35 := (m29.below hb32).more hb32.size
        have c36 := c30.trans (hb32.mono c30.size)
        clear b27 b28 m29 c30 hb32
        go_wp2_with (first | (refine wpList_load_blk_w (by rfl) _ _ rfl (w.heap.size) rfl _ #[Value.int .i64 s0.rev, Value.slice pj0 s0.jobs.length cj0, Value.slice pn0 s0.nodes.length cn0, Value.slice pl0 s0.leases.length cl0] b33 _ Tryd.underlying26 rfl state_size4 ?_) | (refine wpList_load_blk_w (by rfl) _ _ rfl (g24) rfl _ #[Value.int .i64 noSt.rev, Value.slice q6a noSt.jobs.length d6a, Value.slice q6b noSt.nodes.length d6b, Value.slice q6c noSt.leases.length d6c] b34 _ Tryd.underlying26 rfl state_size4 ?_))
        go_ret
        exact ⟨rfl, c36⟩
  · have hne1 : ((checkE s0 : Int) == 0) = false := by rw [beq_eq_false_iff_ne]; omega
    generalize bstr (printE s0) = u at *
    generalize checkE s0 = er0 at *
    clear hE
    by_cases hpe : parseE b.data.toList = 0
    · obtain ⟨hc, hp⟩ := parse_t0 hpe
      have HPb := Lib.hid (fun (W : World) q1 q2 q3 d1 d2 d3 (hm : StM W W.heap.size q1 q2 q3 (parseS b.data.toList)) (hP : LibP W.heap.size W) => Print_any (parseS b.data.toList) q1 q2 q3 d1 d2 d3 W hm ((fine_iff _).1 hc).sz hP)
      have hpr : bstr (printE (parseS b.data.toList)) = b := by unfold printE; rw [if_pos hc, hp, bstr_self]
      rw [hpr, hc] at HPb
      rw [hpe] at HPa
      generalize parseS b.data.toList = x at *
      clear hpr hp hc hpe
      have heq : (b.toList == b.toList) = true := by simp
      go_enter Tryd.func3, Tryd.ntmps3
      go_wp2_with fail
      generalize w.alloc _ = W0 at *
      refine (printedF_any _ (HT.out.atP cc)).mono ?_
      rintro e w1 ⟨rfl, hb2⟩
      have b3 := bb0.below hb2 bb0.lt
      have c4 := cc.trans (hb2.mono cc.size)
      clear bb0 cc hb2
      go_wp2_with (first | (refine wpList_load_blk_w (by rfl) _ _ rfl (w.heap.size) rfl _ #[Value.int .i64 s0.rev, Value.slice pj0 s0.jobs.length cj0, Value.slice pn0 s0.nodes.length cn0, Value.slice pl0 s0.leases.length cl0] b3 _ Tryd.underlying26 rfl state_size4 ?_))
      refine (HPr.out _ c4).mono ?_
      rintro e w5 ⟨rfl, hb6⟩
      have b7 := b3.below hb6 b3.lt
      have c8 := c4.trans (hb6.mono c4.size)
      clear b3 c4 hb6
      go_wp2_with (first | (refine wpList_load_blk_w (by rfl) _ _ rfl (w.heap.size) rfl _ #[Value.int .i64 s0.rev, Value.slice pj0 s0.jobs.length cj0, Value.slice pn0 s0.nodes.length cn0, Value.slice pl0 s0.leases.length cl0] b7 _ Tryd.underlying26 rfl state_size4 ?_))
      refine (HCk.out _ c8).mono ?_
      rintro e w9 ⟨rfl, hb10⟩
      have b11 := b7.below hb10 b7.lt
      have c12 := c8.trans (hb10.mono c8.size)
      clear b7 c8 hb10
      go_wp2_with (first | (refine wpList_load_blk_w (by rfl) _ _ rfl (w.heap.size) rfl _ #[Value.int .i64 s0.rev, Value.slice pj0 s0.jobs.length cj0, Value.slice pn0 s0.nodes.length cn0, Value.slice pl0 s0.leases.length cl0] b11 _ Tryd.underlying26 rfl state_size4 ?_))
      refine (HPa.out _ c12).mono ?_
      rintro e w14 ⟨q7a, q7b, q7c, d7a, d7b, d7c, rfl, m13, hb15⟩
      have b16 := b11.below hb15 b11.lt
      have c17 := c12.trans (hb15.mono c12.size)
      clear b11 c12 hb15
      have hb18 : Below w14.heap.size w14 (w14.alloc (.cells #[Value.int .i64 x.rev, Value.slice q7a x.jobs.length d7a, Value.slice q7b x.nodes.length d7b, Value.slice q7c x.leases.length d7c] 26)) := (Below.refl _ _).alloc (Nat.le_refl _) _
      have b19 := Blk.new w14 26 #[Value.int .i64 x.rev, Value.slice q7a x.jobs.length d7a, Value.slice q7b x.nodes.length d7b, Value.slice q7c x.leases.length d7c]
      have b20 := b16.below hb18 b16.lt
      have m21 := (m13.below hb18).more hb18.size
      have c22 := c17.trans (hb18.mono c17.size)
      clear b16 m13 c17 hb18
      go_wp2_with (first | (refine wpList_store_new rfl _ _ _ rfl rfl 26 _ #[Value.int .i64 x.rev, Value.slice q7a x.jobs.length d7a, Value.slice q7b x.nodes.length d7b, Value.slice q7c x.leases.length d7c] rfl state_size4 rfl (one_stJ _ _ _ _ _ _ _ _ _ _) ?_) | (first | (refine wpList_load_blk_w (by rfl) _ _ rfl (w.heap.size) rfl _ #[Value.int .i64 s0.rev, Value.slice pj0 s0.jobs.length cj0, Value.slice pn0 s0.nodes.length cn0, Value.slice pl0 s0.leases.length cl0] b20 _ Tryd.underlying26 rfl state_size4 ?_) | (refine wpList_load_blk_w (by rfl) _ _ rfl (w14.heap.size) rfl _ #[Value.int .i64 x.rev, Value.slice q7a x.jobs.length d7a, Value.slice q7b x.nodes.length d7b, Value.slice q7c x.leases.length d7c] b19 _ Tryd.underlying26 rfl state_size4 ?_)))
      generalize w14.alloc _ = W23 at *
      generalize w14.heap.size = g24 at *
      refine (HPb.out _ _ _ _ _ _ _ m21 (HT.out.atP c22)).mono ?_
      rintro e w25 ⟨rfl, hb26⟩
      have b27 := b20.below hb26 b20.lt
      have b28 := b19.below hb26 b19.lt
      have m29 := (m21.below hb26).more hb26.size
      have c30 := c22.trans (hb26.mono c22.size)
      clear b20 b19 m21 c22 hb26
      go_wp2_with (first | (refine wpList_load_blk_w (by rfl) _ _ rfl (w.heap.size) rfl _ #[Value.int .i64 s0.rev, Value.slice pj0 s0.jobs.length cj0, Value.slice pn0 s0.nodes.length cn0, Value.slice pl0 s0.leases.length cl0] b27 _ Tryd.underlying26 rfl state_size4 ?_) | (refine wpList_load_blk_w (by rfl) _ _ rfl (g24) rfl _ #[Value.int .i64 x.rev, Value.slice q7a x.jobs.length d7a, Value.slice q7b x.nodes.length d7b, Value.slice q7c x.leases.length d7c] b28 _ Tryd.underlying26 rfl state_size4 ?_))
      go_ret
      exact ⟨rfl, c30⟩
    · have hs := parse_t1 hpe
      rw [hs] at HPa
      have hf1 : ((parseE b.data.toList : Int) == 0) = false := by rw [beq_eq_false_iff_ne]; omega
      have hf2 : ((parseE b.data.toList : Int) != 0) = true := by rw [bne_iff_ne]; omega
      generalize parseE b.data.toList = er at *
      clear hs hpe
      go_enter Tryd.func3, Tryd.ntmps3
      go_wp2_with fail
      generalize w.alloc _ = W0 at *
      refine (printedF_any _ (HT.out.atP cc)).mono ?_
      rintro e w1 ⟨rfl, hb2⟩
      have b3 := bb0.below hb2 bb0.lt
      have c4 := cc.trans (hb2.mono cc.size)
      clear bb0 cc hb2
      go_wp2_with (first | (refine wpList_load_blk_w (by rfl) _ _ rfl (w.heap.size) rfl _ #[Value.int .i64 s0.rev, Value.slice pj0 s0.jobs.length cj0, Value.slice pn0 s0.nodes.length cn0, Value.slice pl0 s0.leases.length cl0] b3 _ Tryd.underlying26 rfl state_size4 ?_))
      refine (HPr.out _ c4).mono ?_
      rintro e w5 ⟨rfl, hb6⟩
      have b7 := b3.below hb6 b3.lt
      have c8 := c4.trans (hb6.mono c4.size)
      clear b3 c4 hb6
      go_wp2_with (first | (refine wpList_load_blk_w (by rfl) _ _ rfl (w.heap.size) rfl _ #[Value.int .i64 s0.rev, Value.slice pj0 s0.jobs.length cj0, Value.slice pn0 s0.nodes.length cn0, Value.slice pl0 s0.leases.length cl0] b7 _ Tryd.underlying26 rfl state_size4 ?_))
      refine (HCk.out _ c8).mono ?_
      rintro e w9 ⟨rfl, hb10⟩
      have b11 := b7.below hb10 b7.lt
      have c12 := c8.trans (hb10.mono c8.size)
      clear b7 c8 hb10
      go_wp2_with (first | (refine wpList_load_blk_w (by rfl) _ _ rfl (w.heap.size) rfl _ #[Value.int .i64 s0.rev, Value.slice pj0 s0.jobs.length cj0, Value.slice pn0 s0.nodes.length cn0, Value.slice pl0 s0.leases.length cl0] b11 _ Tryd.underlying26 rfl state_size4 ?_))
      refine (HPa.out _ c12).mono ?_
      rintro e w14 ⟨q8a, q8b, q8c, d8a, d8b, d8c, rfl, m13, hb15⟩
      have b16 := b11.below hb15 b11.lt
      have c17 := c12.trans (hb15.mono c12.size)
      clear b11 c12 hb15
      have hb18 : Below w14.heap.size w14 (w14.alloc (.cells #[Value.int .i64 noSt.rev, Value.slice q8a noSt.jobs.length d8a, Value.slice q8b noSt.nodes.length d8b, Value.slice q8c noSt.leases.length d8c] 26)) := (Below.refl _ _).alloc (Nat.le_refl _) _
      have b19 := Blk.new w14 26 #[Value.int .i64 noSt.rev, Value.slice q8a noSt.jobs.length d8a, Value.slice q8b noSt.nodes.length d8b, Value.slice q8c noSt.leases.length d8c]
      have b20 := b16.below hb18 b16.lt
      have m21 := (m13.below hb18).more hb18.size
      have c22 := c17.trans (hb18.mono c17.size)
      clear b16 m13 c17 hb18
      go_wp2_with (first | (refine wpList_store_new rfl _ _ _ rfl rfl 26 _ #[Value.int .i64 noSt.rev, Value.slice q8a noSt.jobs.length d8a, Value.slice q8b noSt.nodes.length d8b, Value.slice q8c noSt.leases.length d8c] rfl state_size4 rfl (one_stJ _ _ _ _ _ _ _ _ _ _) ?_) | (first | (refine wpList_load_blk_w (by rfl) _ _ rfl (w.heap.size) rfl _ #[Value.int .i64 s0.rev, Value.slice pj0 s0.jobs.length cj0, Value.slice pn0 s0.nodes.length cn0, Value.slice pl0 s0.leases.length cl0] b20 _ Tryd.underlying26 rfl state_size4 ?_) | (refine wpList_load_blk_w (by rfl) _ _ rfl (w14.heap.size) rfl _ #[Value.int .i64 noSt.rev, Value.slice q8a noSt.jobs.length d8a, Value.slice q8b noSt.nodes.length d8b, Value.slice q8c noSt.leases.length d8c] b19 _ Tryd.underlying26 rfl state_size4 ?_)))
      generalize w14.alloc _ = W23 at *
      generalize w14.heap.size = g24 at *
      refine (Print_any noSt _ _ _ _ _ _ _ m21 noSt_sz (HT.out.atP c22)).mono ?_
      rintro e w25 ⟨rfl, hb26⟩
      have b27 := b20.below hb26 b20.lt
      have b28 := b19.below hb26 b19.lt
      have m29 := (m21.below hb26).more hb26.size
      have c30 := c22.trans (hb26.mono c22.size)
      clear b20 b19 m21 c22 hb26
      go_wp2_with (first | (refine wpList_load_blk_w (by rfl) _ _ rfl (w.heap.size) rfl _ #[Value.int .i64 s0.rev, Value.slice pj0 s0.jobs.length cj0, Value.slice pn0 s0.nodes.length cn0, Value.slice pl0 s0.leases.length cl0] b27 _ Tryd.underlying26 rfl state_size4 ?_) | (refine wpList_load_blk_w (by rfl) _ _ rfl (g24) rfl _ #[Value.int .i64 noSt.rev, Value.slice q8a noSt.jobs.length d8a, Value.slice q8b noSt.nodes.length d8b, Value.slice q8c noSt.leases.length d8c] b28 _ Tryd.underlying26 rfl state_size4 ?_))
      have hS := same_any noSt noSt q8a q8b q8c none none none d8a d8b d8c 0 0 0 _ m29 (noSt_M _ _) noSt_sz noSt_sz
      rw [decide_eq_true rfl] at hS
      refine (hS).mono ?_
      rintro e w31 ⟨rfl, hb32⟩
      have b33 := b27.below hb32 b27.lt
      have b34 := b28.below hb32 b28.lt
      have m35 := (m29.below hb32).more hb32.size
      have c36 := c30.trans (hb32.mono c30.size)
      clear b27 b28 m29 c30 hb32
      go_wp2_with (first | (refine wpList_load_blk_w (by rfl) _ _ rfl (w.heap.size) rfl _ #[Value.int .i64 s0.rev, Value.slice pj0 s0.jobs.length cj0, Value.slice pn0 s0.nodes.length cn0, Value.slice pl0 s0.leases.length cl0] b33 _ Tryd.underlying26 rfl state_size4 ?_) | (refine wpList_load_blk_w (by rfl) _ _ rfl (g24) rfl _ #[Value.int .i64 noSt.rev, Value.slice q8a noSt.jobs.length d8a, Value.slice q8b noSt.nodes.length d8b, Value.slice q8c noSt.leases.length d8c] b34 _ Tryd.underlying26 rfl state_size4 ?_))
      go_ret
      exact ⟨rfl, c36⟩

theorem own : ownKnob Tryd.prog.godebug = none := by kernel_rfl
theorem laid : laidOutB Tryd.prog = true := by kernel_rfl
set_option maxRecDepth 100000 in
theorem contract (H : Type) (enc : TypeId × Value → H) (W : World) (base : Nat) (args : Array Value) (ds gs : List (DataW H)) (before : List MemPlace)
    (hval0 : ∀ (j : Nat) t v, Tryd.f3.params[j]? = some t → args[j]? = some v → Value.okWide Tryd.prog W .any base t v)
    (hW : DataW.Whole enc Tryd.prog Tryd.f3.params.toList Rows.jSONBackSpec.vars false W args.toList ds gs before)
    (hsz0 : (DataW.weightsEach Tryd.prog (Tryd.f3.params.toList ++ Rows.jSONBackSpec.plain.varTypes Tryd.prog) (ds ++ gs)).all (· ≤ reachBytes) = true)
    (hT : LibJ W.heap.size W) :
    Calls Tryd.prog 3 args W fun e W' => ∃ v, e = .returned v ∧ Rows.jSONBackSpec.post enc Tryd.prog Tryd.f3 false true false false W args v W' := by
  have hval : ∀ (j : Nat) t v, Tryd.f3.params[j]? = some t → args[j]? = some v → Value.okWide Tryd.prog W .any base t v := hval0
  have hsz : (DataW.weightsEach Tryd.prog (Tryd.f3.params.toList ++ Rows.jSONBackSpec.plain.varTypes Tryd.prog) (ds ++ gs)).all (· ≤ reachBytes) = true := hsz0
  have hlt : ∀ x ∈ before, x.block < W.heap.size := fun x hx => hW.lt x hx
  have hW' := hW
  obtain ⟨p, q, hA0, hV, rfl, hfz, hnd⟩ := hW
  have hA : DataW.TrodAll enc Tryd.prog W 0 (fun _ => true) true Tryd.f3.params.toList args.toList ds p := hA0
  rw [Tryd.params3] at hA hval hsz
  obtain ⟨v0, vs0, d0, ds0, p0, q0, hargs, rfl, rfl, h0, r0⟩ := trodAll_cons hA
  obtain ⟨v1, vs1, d1, ds1, p1, q1, rfl, rfl, rfl, h1, r1⟩ := trodAll_cons r0
  obtain ⟨rfl, rfl, rfl⟩ := trodAll_nil r1
  obtain rfl : args = #[v0, v1] := by cases args; simp_all
  obtain ⟨rfl, rfl⟩ := trodVars_none hV
  obtain ⟨s0, pj0, pn0, pl0, cj0, cn0, cl0, rfl, hm0, hk0⟩ := open_state (hval 0 26 v0 rfl rfl) h0 hsz (j := 0) rfl rfl
  obtain ⟨a1, rfl, rfl, rfl, w1⟩ := open_string Tryd.underlying9 (hval 1 9 v1 rfl rfl) h1
  have b1 : a1.size ≤ 140737488351232 := by have := sized_string hsz (j := 1) (t := 9) rfl rfl; simpa [reachBytes] using this
  refine (walk s0 pj0 pn0 pl0 cj0 cn0 cl0 W hm0 hk0 a1 b1 hT).mono fun e W' ⟨he, hb⟩ => ?_
  subst he
  exact ⟨_, rfl, law_post laid (by kernel_rfl) Tryd.underlying4 rfl rfl hW' rfl rfl rfl rfl hb⟩

theorem reads (os : Os) {H : Type} (enc : TypeId × Value → H) : ∃ places, DataW.whole enc Tryd.prog ((laidWorldJ os).forCall (fun _ _ => 0) ⟨#[], #[.agg #[.int .i64 0, .slice none 0 0, .slice none 0 0, .slice none 0 0], .string ByteArray.empty], []⟩).memory Tryd.f3.params.toList Rows.jSONBackSpec.vars false (#[.agg #[.int .i64 0, .slice none 0 0, .slice none 0 0, .slice none 0 0], .string ByteArray.empty] : Array Value).toList 8 = some ([.agg [.lit (.int .i64 0), .nil, .nil, .nil], .lit (.string [])], [], places) :=
  ⟨[], by kernel_rfl⟩
set_option maxRecDepth 100000 in
theorem lifted (os : Os) (started : os.Started) (H : Type) (enc : TypeId × Value → H) (F : Stop.Interp) :
    ReturnsInHanded {} Tryd.checked os 3 .any ((OpenSpec.ofChange Rows.jSONBackSpec).preRow enc Tryd.prog Tryd.f3 Rows.jSONBackRow.domain false Rows.jSONBackRow.laid) (((OpenSpec.ofChange Rows.jSONBackSpec).at F).post enc Tryd.prog Tryd.f3 false true false false) := by
  obtain ⟨places, hx⟩ := reads os enc
  refine returnsInHanded_of_row (C := Tryd.checked) (s := (OpenSpec.ofChange Rows.jSONBackSpec)) own started (by kernel_rfl) Tryd.func3
    (witness_row_atRef (enc := enc) (C := Tryd.checked) false (laidWorldJ os) #[.agg #[.int .i64 0, .slice none 0 0, .slice none 0 0, .slice none 0 0], .string ByteArray.empty] rfl (by kernel_rfl) (by kernel_rfl) (by kernel_rfl)
      (OpenSpec.preRow_of_cond 8 hx (by kernel_rfl) (fun k hk => by cases hk) (by kernel_rfl) (laid_metJ os _))) ?_
  intro W base args ds gs before hval0 hW _ hcond hsz0 hL _ _
  exact contract H enc W base args ds gs before hval0 hW hsz0 (libJ_of_laid hL)

theorem said : Rows.JSONBackSaid :=
  OpenClaim.holds_of_cond 3 Tryd.f3 rfl rfl rfl rfl rfl rfl rfl ⟨rfl, rfl, rfl, rfl, rfl⟩ rfl rfl rfl rfl rfl (by kernel_rfl) Tryd.func3 (by kernel_rfl)
    (of_decide_eq_true (by kernel_rfl)) (by unfold Func.isWrapper; first | (rw [if_pos (by decide +kernel)]; kernel_rfl) | (rw [if_neg (by decide +kernel)]; exact ⟨rfl, rfl⟩))
    (fun os started H enc _ F => by rw [OpenClaim.pre_eq_preRow]; exact lifted os started H enc F)

/-- No parameter wants a stand-in; the program's own looks are off. -/
theorem plain (f : FuncId) (fn : Func) (hf : Tryd.pinned.checked.prog.funcNamed "bracken/brackenkeep.JSONBack" = some f) (hfn : Tryd.pinned.checked.prog.funcs[f]? = some fn) :
    true = Tryd.pinned.checked.prog.looks [] ∧ ∀ (j : Nat) t, fn.params[j]? = some t → Tryd.pinned.checked.prog.wantsStandIn t = false := by
  obtain rfl : f = 3 := Option.some.inj ((show Tryd.prog.funcNamed "bracken/brackenkeep.JSONBack" = some 3 by kernel_rfl).symm.trans hf) |>.symm
  obtain rfl : fn = Tryd.f3 := (Option.some.inj (Tryd.func3.symm.trans hfn)).symm
  refine ⟨by kernel_rfl, fun j t ht => ?_⟩
  rw [Tryd.params3] at ht
  have hm := Array.mem_of_getElem? ht
  have hall : (#[26, 9] : Array TypeId).all (fun t => !Tryd.prog.wantsStandIn t) = true := by kernel_rfl
  have := Array.all_eq_true_iff_forall_mem.1 hall t (by simpa using hm)
  show Tryd.prog.wantsStandIn t = false
  simpa using this

/-- The statement. -/
theorem proved : Rows.JSONBackCardSaid :=
  Claim7.holds_tied_plain_at .later [] _ _ _ _ said (fun _ h => by cases h) (by kernel_rfl) (fun _ h => by cases h) jSONBack_row_tie rfl ⟨rfl, rfl⟩ (by kernel_rfl) rfl plain (by kernel_rfl)
#print axioms proved
end Go.Proofs.YtdicoepjkngikaaDoor.jSONBack
