/-
  What is asked at a Tick: the part of the request, the whole, the check.
-/
import Derived.Test.YtnmokjgnbcfabaaReplyD
import Derived.Test.YtnmokjgnbcfabaaRows0
import Derived.Test.YtnmokjgnbcfabaaAbv
import Derived.Test.YtnmokjgnbcfabaaHeld
set_option linter.unusedVariables false
set_option linter.unusedSimpArgs false
namespace Go.Proofs.Ytnmokjgnbcfabaa
open Go.RowKit
theorem zero_request_lit (W : World) : (zeroValue 29).run Try.prog W = .ok (.agg #[.int .i64 0, .string ByteArray.empty, .int .i64 0, .int .i64 0, .int .i64 0, .string ByteArray.empty, .string ByteArray.empty, .int .i64 0, .string ByteArray.empty, .string ByteArray.empty, .string ByteArray.empty, .int .i64 0, .string ByteArray.empty, .int .i64 0]) W := by kernel_rfl
theorem request_size : (Try.prog.info? 29).map (·.size) = some 14 := by kernel_rfl
theorem one_q14 (k n : Int) : (#[.int .i64 k, .string ByteArray.empty, .int .i64 0, .int .i64 0, .int .i64 0, .string ByteArray.empty, .string ByteArray.empty, .int .i64 0, .string ByteArray.empty, .string ByteArray.empty, .string ByteArray.empty, .int .i64 0, .string ByteArray.empty, .int .i64 n] : Array Value).all (·.oneCell') = true := by simp [Value.oneCell']
set_option maxHeartbeats 2000000 in
set_option maxRecDepth 100000 in
theorem partOf_any (n : Int) (w : World) :
    Calls Try.prog 15 #[.agg #[.int .i64 7, .string ByteArray.empty, .int .i64 0, .int .i64 0, .int .i64 0, .string ByteArray.empty, .string ByteArray.empty, .int .i64 0, .string ByteArray.empty, .string ByteArray.empty, .string ByteArray.empty, .int .i64 0, .string ByteArray.empty, .int .i64 n]] w fun e w' =>
      ∃ g, e = .returned (.iface 78 (.pointer (some ⟨g, 0, none⟩))) ∧ w.heap.size ≤ g ∧ Blk w' g 77 #[.int .i64 n] ∧ Below w.heap.size w w' := by
  go_enter Try.func15, Try.ntmps15
  go_wp2_with fail
  go_ret
  refine ⟨w.heap.size + 1, rfl, by omega, ?_, ((Below.refl _ _).alloc (Nat.le_refl _) _).alloc (by simp) _⟩
  have := Blk.new (w.alloc (.cells #[.int .i64 7, .string ByteArray.empty, .int .i64 0, .int .i64 0, .int .i64 0, .string ByteArray.empty, .string ByteArray.empty, .int .i64 0, .string ByteArray.empty, .string ByteArray.empty, .string ByteArray.empty, .int .i64 0, .string ByteArray.empty, .int .i64 n] 29)) 77 #[.int .i64 n]
  rwa [show (w.alloc (.cells #[.int .i64 7, .string ByteArray.empty, .int .i64 0, .int .i64 0, .int .i64 0, .string ByteArray.empty, .string ByteArray.empty, .int .i64 0, .string ByteArray.empty, .string ByteArray.empty, .string ByteArray.empty, .int .i64 0, .string ByteArray.empty, .int .i64 n] 29)).heap.size = w.heap.size + 1 from by simp] at this
set_option maxHeartbeats 2000000 in
set_option maxRecDepth 100000 in
theorem into_any (n m : Int) (g q : Nat) (w : World) (bg : Blk w g 77 #[.int .i64 n]) (bq : Blk w q 29 #[.int .i64 7, .string ByteArray.empty, .int .i64 0, .int .i64 0, .int .i64 0, .string ByteArray.empty, .string ByteArray.empty, .int .i64 0, .string ByteArray.empty, .string ByteArray.empty, .string ByteArray.empty, .int .i64 0, .string ByteArray.empty, .int .i64 m]) :
    Calls Try.prog 79 #[.pointer (some ⟨g, 0, none⟩), .pointer (some ⟨q, 0, none⟩)] w fun e w' => e = .returned (.tuple #[]) ∧ w' = w.setCell ⟨q, 13, none⟩ (.int .i64 n) := by
  have c0 : w.cell? ⟨g, 0, none⟩ = some (.int .i64 n) := bg.cell 0
  have c1 : w.cell? ⟨q, 13, none⟩ = some (.int .i64 m) := bq.cell 13
  have f1 : w.frozen? ⟨q, 13, none⟩ = false := bq.frozen 13
  go_enter Try.func79, Try.ntmps79
  go_wp2_with fail
  go_end0
  exact ⟨rfl, rfl⟩
set_option maxHeartbeats 2000000 in
set_option maxRecDepth 100000 in
theorem whole_any (n : Int) (g : Nat) (w : World) (bg : Blk w g 77 #[.int .i64 n]) :
    Calls Try.prog 16 #[.int .i64 7, .iface 78 (.pointer (some ⟨g, 0, none⟩))] w fun e w' => e = .returned (.agg #[.int .i64 7, .string ByteArray.empty, .int .i64 0, .int .i64 0, .int .i64 0, .string ByteArray.empty, .string ByteArray.empty, .int .i64 0, .string ByteArray.empty, .string ByteArray.empty, .string ByteArray.empty, .int .i64 0, .string ByteArray.empty, .int .i64 n]) ∧ Below w.heap.size w w' := by
  have hzd := zero_request_lit
  have hb1 := (Below.refl w.heap.size w).alloc (Nat.le_refl _) (.cells #[.int .i64 0, .string ByteArray.empty, .int .i64 0, .int .i64 0, .int .i64 0, .string ByteArray.empty, .string ByteArray.empty, .int .i64 0, .string ByteArray.empty, .string ByteArray.empty, .string ByteArray.empty, .int .i64 0, .string ByteArray.empty, .int .i64 0] 29)
  have hs1 : (w.alloc (.cells #[.int .i64 0, .string ByteArray.empty, .int .i64 0, .int .i64 0, .int .i64 0, .string ByteArray.empty, .string ByteArray.empty, .int .i64 0, .string ByteArray.empty, .string ByteArray.empty, .string ByteArray.empty, .int .i64 0, .string ByteArray.empty, .int .i64 0] 29)).heap.size = w.heap.size + 1 := by simp
  have hb2 := hb1.alloc (by omega) (.cells #[.int .i64 7, .string ByteArray.empty, .int .i64 0, .int .i64 0, .int .i64 0, .string ByteArray.empty, .string ByteArray.empty, .int .i64 0, .string ByteArray.empty, .string ByteArray.empty, .string ByteArray.empty, .int .i64 0, .string ByteArray.empty, .int .i64 0] 29)
  have bg2 := bg.below hb2 bg.lt
  have br2 := (Blk.new w 29 #[.int .i64 0, .string ByteArray.empty, .int .i64 0, .int .i64 0, .int .i64 0, .string ByteArray.empty, .string ByteArray.empty, .int .i64 0, .string ByteArray.empty, .string ByteArray.empty, .string ByteArray.empty, .int .i64 0, .string ByteArray.empty, .int .i64 0]).alloc (.cells #[.int .i64 7, .string ByteArray.empty, .int .i64 0, .int .i64 0, .int .i64 0, .string ByteArray.empty, .string ByteArray.empty, .int .i64 0, .string ByteArray.empty, .string ByteArray.empty, .string ByteArray.empty, .int .i64 0, .string ByteArray.empty, .int .i64 0] 29)
  have bq2 := Blk.new (w.alloc (.cells #[.int .i64 0, .string ByteArray.empty, .int .i64 0, .int .i64 0, .int .i64 0, .string ByteArray.empty, .string ByteArray.empty, .int .i64 0, .string ByteArray.empty, .string ByteArray.empty, .string ByteArray.empty, .int .i64 0, .string ByteArray.empty, .int .i64 0] 29)) 29 #[.int .i64 7, .string ByteArray.empty, .int .i64 0, .int .i64 0, .int .i64 0, .string ByteArray.empty, .string ByteArray.empty, .int .i64 0, .string ByteArray.empty, .string ByteArray.empty, .string ByteArray.empty, .int .i64 0, .string ByteArray.empty, .int .i64 0]
  rw [hs1] at bq2
  go_enter Try.func16, Try.ntmps16
  go_wp2_with (first | (refine wpList_store_new rfl _ _ _ rfl rfl _ _ #[.int .i64 7, .string ByteArray.empty, .int .i64 0, .int .i64 0, .int .i64 0, .string ByteArray.empty, .string ByteArray.empty, .int .i64 0, .string ByteArray.empty, .string ByteArray.empty, .string ByteArray.empty, .int .i64 0, .string ByteArray.empty, .int .i64 0] rfl request_size rfl (one_q14 _ _) ?_))
  generalize (w.alloc _).alloc _ = w2 at *
  refine (into_any n 0 g (w.heap.size + 1) w2 bg2 bq2).mono ?_
  rintro e w3 ⟨rfl, rfl⟩
  have br3 := br2.far (p := ⟨w.heap.size + 1, 13, none⟩) (Nat.ne_of_lt (Nat.lt_succ_self _)) (.int .i64 n)
  have bq3 := bq2.set_ 13 (.int .i64 n)
  have hq3 : (#[.int .i64 7, .string ByteArray.empty, .int .i64 0, .int .i64 0, .int .i64 0, .string ByteArray.empty, .string ByteArray.empty, .int .i64 0, .string ByteArray.empty, .string ByteArray.empty, .string ByteArray.empty, .int .i64 0, .string ByteArray.empty, .int .i64 0] : Array Value).setIfInBounds 13 (.int .i64 n) = #[.int .i64 7, .string ByteArray.empty, .int .i64 0, .int .i64 0, .int .i64 0, .string ByteArray.empty, .string ByteArray.empty, .int .i64 0, .string ByteArray.empty, .string ByteArray.empty, .string ByteArray.empty, .int .i64 0, .string ByteArray.empty, .int .i64 n] := rfl
  rw [hq3] at bq3
  have hb3 := hb2.setCell (p := ⟨w.heap.size + 1, 13, none⟩) (Nat.le_succ _) (.int .i64 n)
  clear hb2 br2 bq2 hq3 bg2 bg hb1 hs1
  generalize w2.setCell _ _ = w3 at *
  go_wp2_with (first
    | (refine wpList_load_blk rfl _ _ rfl (w.heap.size + 1) rfl _ #[.int .i64 7, .string ByteArray.empty, .int .i64 0, .int .i64 0, .int .i64 0, .string ByteArray.empty, .string ByteArray.empty, .int .i64 0, .string ByteArray.empty, .string ByteArray.empty, .string ByteArray.empty, .int .i64 0, .string ByteArray.empty, .int .i64 n] bq3 _ Try.underlying29 rfl request_size ?_)
    | (refine wpList_store_blk rfl _ _ _ rfl w.heap.size rfl _ _ #[.int .i64 7, .string ByteArray.empty, .int .i64 0, .int .i64 0, .int .i64 0, .string ByteArray.empty, .string ByteArray.empty, .int .i64 0, .string ByteArray.empty, .string ByteArray.empty, .string ByteArray.empty, .int .i64 0, .string ByteArray.empty, .int .i64 n] br3 rfl request_size rfl (one_q14 _ _) ?_))
  refine bodyPost_ret (results_cell1 rfl _ rfl (br3.setRow #[.int .i64 7, .string ByteArray.empty, .int .i64 0, .int .i64 0, .int .i64 0, .string ByteArray.empty, .string ByteArray.empty, .int .i64 0, .string ByteArray.empty, .string ByteArray.empty, .string ByteArray.empty, .int .i64 0, .string ByteArray.empty, .int .i64 n]) Try.underlying29 rfl request_size) rfl ?_
  exact ⟨rfl, below_setRow hb3 (Nat.le_refl _) _⟩
set_option maxHeartbeats 2000000 in
set_option maxRecDepth 100000 in
theorem ccheck_any (n : Int) (hn : 0 ≤ n ∧ n ≤ 1099511627776) (g : Nat) (w : World) (bg : Blk w g 77 #[.int .i64 n]) :
    Calls Try.prog 78 #[.pointer (some ⟨g, 0, none⟩)] w fun e w' => e = .returned (.int .i64 0) ∧ w = w' := by
  have c0 : w.cell? ⟨g, 0, none⟩ = some (.int .i64 n) := bg.cell 0
  have hT := isTime_any n w
  rw [decide_eq_true hn.1, decide_eq_true hn.2] at hT
  have HT := Lib.hid hT
  clear hT
  go_enter Try.func78, Try.ntmps78
  go_wp2_with fail
  refine HT.out.mono ?_
  rintro e w1 ⟨rfl, rfl⟩
  go_wp2_with fail
  go_ret
  exact ⟨rfl, rfl⟩
set_option maxHeartbeats 2000000 in
set_option maxRecDepth 100000 in
theorem eqInQ (k n : Int) (w : World) : (Op.equalIn 10000 29 (.agg #[.int .i64 k, .string ByteArray.empty, .int .i64 0, .int .i64 0, .int .i64 0, .string ByteArray.empty, .string ByteArray.empty, .int .i64 0, .string ByteArray.empty, .string ByteArray.empty, .string ByteArray.empty, .int .i64 0, .string ByteArray.empty, .int .i64 n]) (.agg #[.int .i64 k, .string ByteArray.empty, .int .i64 0, .int .i64 0, .int .i64 0, .string ByteArray.empty, .string ByteArray.empty, .int .i64 0, .string ByteArray.empty, .string ByteArray.empty, .string ByteArray.empty, .int .i64 0, .string ByteArray.empty, .int .i64 n])).run Try.prog w = .ok true w := by
  have hS : Try.prog.underlying 29 = some (.struct (Try.prog.fieldsOf 29)) := by kernel_rfl
  have hp : Try.prog.stoodInHeld 29 = false := by kernel_rfl
  have u0 := Try.underlying9
  have z0 := Try.sizeOf9
  have g0 := Try.isAgg9
  have u1 := Try.underlying3
  have z1 := Try.sizeOf3
  have g1 := Try.isAgg3
  have u2 := Try.underlying23
  have z2 := Try.sizeOf23
  have g2 := Try.isAgg23
  have u3 := Try.underlying25
  have z3 := Try.sizeOf25
  have g3 := Try.isAgg25
  have u4 := Try.underlying27
  have z4 := Try.sizeOf27
  have g4 := Try.isAgg27
  have s0 : Try.prog.underlying 23 = some (.struct (Try.prog.fieldsOf 23)) := by kernel_rfl
  have p0 : Try.prog.stoodInHeld 23 = false := by kernel_rfl
  have s1 : Try.prog.underlying 25 = some (.struct (Try.prog.fieldsOf 25)) := by kernel_rfl
  have p1 : Try.prog.stoodInHeld 25 = false := by kernel_rfl
  have s2 : Try.prog.underlying 27 = some (.struct (Try.prog.fieldsOf 27)) := by kernel_rfl
  have p2 : Try.prog.stoodInHeld 27 = false := by kernel_rfl
  rw [show (10000 : Nat) = 9999 + 1 from rfl, run_equalIn_agg w 9999 29 _ _ hS hp]
  simp only [Program.fieldsOf, Try.underlying29]
  go_simp
theorem eqGuardQ : Try.prog.eqGuardType Try.prog.depth 29 = false := by kernel_rfl
set_option maxHeartbeats 2000000 in
set_option maxRecDepth 100000 in
theorem check_tick (n : Int) (hn : 0 ≤ n ∧ n ≤ 1099511627776) (w : World) :
    Calls Try.prog 10 #[.agg #[.int .i64 7, .string ByteArray.empty, .int .i64 0, .int .i64 0, .int .i64 0, .string ByteArray.empty, .string ByteArray.empty, .int .i64 0, .string ByteArray.empty, .string ByteArray.empty, .string ByteArray.empty, .int .i64 0, .string ByteArray.empty, .int .i64 n]] w fun e w' => e = .returned (.int .i64 0) ∧ Below w.heap.size w w' := by
  have hb0 : Below w.heap.size w (w.alloc (.cells #[.int .i64 7, .string ByteArray.empty, .int .i64 0, .int .i64 0, .int .i64 0, .string ByteArray.empty, .string ByteArray.empty, .int .i64 0, .string ByteArray.empty, .string ByteArray.empty, .string ByteArray.empty, .int .i64 0, .string ByteArray.empty, .int .i64 n] 29)) := (Below.refl _ _).alloc (Nat.le_refl _) _
  have bq0 := Blk.new w 29 #[.int .i64 7, .string ByteArray.empty, .int .i64 0, .int .i64 0, .int .i64 0, .string ByteArray.empty, .string ByteArray.empty, .int .i64 0, .string ByteArray.empty, .string ByteArray.empty, .string ByteArray.empty, .int .i64 0, .string ByteArray.empty, .int .i64 n]
  go_enter Try.func10, Try.ntmps10
  go_wp2_with fail
  generalize w.alloc _ = w0 at *
  go_wp2_with (first
    | (refine wpList_load_blk rfl _ _ rfl w.heap.size rfl _ #[.int .i64 7, .string ByteArray.empty, .int .i64 0, .int .i64 0, .int .i64 0, .string ByteArray.empty, .string ByteArray.empty, .int .i64 0, .string ByteArray.empty, .string ByteArray.empty, .string ByteArray.empty, .int .i64 0, .string ByteArray.empty, .int .i64 n] bq0 _ Try.underlying29 rfl request_size ?_))
  refine (partOf_any n w0).mono ?_
  rintro e w1 ⟨g, rfl, hg, bg, hb1⟩
  have hB1 := hb0.trans (hb1.mono hb0.size)
  have bq1 := bq0.below hb1 bq0.lt
  have hQ := Lib.hid (fun (W : World) (hW : Abv w1 W) => bq1.below hW bq1.lt)
  have hG := Lib.hid (fun (W : World) (hW : Abv w1 W) => bg.below hW bg.lt)
  have hE := eqInQ 7 n
  have hE2 := eqGuardQ
  have A0 : Abv w1 w1.drew := (Below.refl _ _).drew
  clear hb1 hb0 bq0
  go_wp2_with fail
  trace_state
  refine wp_region_held_drew (S := Abv w1) (by kernel_rfl) A0 (fun hHeld => ?_)
  refine wpAnyH_take (i := 0) (v := ?_) rfl (by kernel_rfl) (by kernel_rfl) (by kernel_rfl) (fun _ _ _ h => h) (Or.inl ⟨by rfl, ?_⟩) (by assumption) ?_
  rotate_left
  · (intro w5 hw5; (try dsimp only at hw5); have k0 : w5.cell? ⟨w.heap.size, 0, none⟩ = some (.int .i64 7) := (hQ.out w5 hw5).cell 0; have k1 : w5.cell? ⟨w.heap.size, 1, none⟩ = some (.string ByteArray.empty) := (hQ.out w5 hw5).cell 1; have k2 : w5.cell? ⟨w.heap.size, 2, none⟩ = some (.int .i64 0) := (hQ.out w5 hw5).cell 2; have k3 : w5.cell? ⟨w.heap.size, 3, none⟩ = some (.int .i64 0) := (hQ.out w5 hw5).cell 3; have k4 : w5.cell? ⟨w.heap.size, 4, none⟩ = some (.int .i64 0) := (hQ.out w5 hw5).cell 4; have k5 : w5.cell? ⟨w.heap.size, 5, none⟩ = some (.string ByteArray.empty) := (hQ.out w5 hw5).cell 5; have k6 : w5.cell? ⟨w.heap.size, 6, none⟩ = some (.string ByteArray.empty) := (hQ.out w5 hw5).cell 6; have k7 : w5.cell? ⟨w.heap.size, 7, none⟩ = some (.int .i64 0) := (hQ.out w5 hw5).cell 7; have k8 : w5.cell? ⟨w.heap.size, 8, none⟩ = some (.string ByteArray.empty) := (hQ.out w5 hw5).cell 8; have k9 : w5.cell? ⟨w.heap.size, 9, none⟩ = some (.string ByteArray.empty) := (hQ.out w5 hw5).cell 9; have k10 : w5.cell? ⟨w.heap.size, 10, none⟩ = some (.string ByteArray.empty) := (hQ.out w5 hw5).cell 10; have k11 : w5.cell? ⟨w.heap.size, 11, none⟩ = some (.int .i64 0) := (hQ.out w5 hw5).cell 11; have k12 : w5.cell? ⟨w.heap.size, 12, none⟩ = some (.string ByteArray.empty) := (hQ.out w5 hw5).cell 12; have k13 : w5.cell? ⟨w.heap.size, 13, none⟩ = some (.int .i64 n) := (hQ.out w5 hw5).cell 13; go_simp; (try with_reducible rfl))
  (try simp only [Act.put, List.setIfInBounds_toArray, List.set_cons_zero, List.set_cons_succ, List.getElem_toArray, List.getElem_cons_zero, List.getElem_cons_succ])
  refine wpAnyH_take (i := 1) (v := ?_) rfl (by kernel_rfl) (by kernel_rfl) (by kernel_rfl) (fun _ _ _ h => h) (Or.inl ⟨by rfl, ?_⟩) (by assumption) ?_
  rotate_left
  · (intro w5 hw5; (try dsimp only at hw5); have k0 : w5.cell? ⟨w.heap.size, 0, none⟩ = some (.int .i64 7) := (hQ.out w5 hw5).cell 0; have k1 : w5.cell? ⟨w.heap.size, 1, none⟩ = some (.string ByteArray.empty) := (hQ.out w5 hw5).cell 1; have k2 : w5.cell? ⟨w.heap.size, 2, none⟩ = some (.int .i64 0) := (hQ.out w5 hw5).cell 2; have k3 : w5.cell? ⟨w.heap.size, 3, none⟩ = some (.int .i64 0) := (hQ.out w5 hw5).cell 3; have k4 : w5.cell? ⟨w.heap.size, 4, none⟩ = some (.int .i64 0) := (hQ.out w5 hw5).cell 4; have k5 : w5.cell? ⟨w.heap.size, 5, none⟩ = some (.string ByteArray.empty) := (hQ.out w5 hw5).cell 5; have k6 : w5.cell? ⟨w.heap.size, 6, none⟩ = some (.string ByteArray.empty) := (hQ.out w5 hw5).cell 6; have k7 : w5.cell? ⟨w.heap.size, 7, none⟩ = some (.int .i64 0) := (hQ.out w5 hw5).cell 7; have k8 : w5.cell? ⟨w.heap.size, 8, none⟩ = some (.string ByteArray.empty) := (hQ.out w5 hw5).cell 8; have k9 : w5.cell? ⟨w.heap.size, 9, none⟩ = some (.string ByteArray.empty) := (hQ.out w5 hw5).cell 9; have k10 : w5.cell? ⟨w.heap.size, 10, none⟩ = some (.string ByteArray.empty) := (hQ.out w5 hw5).cell 10; have k11 : w5.cell? ⟨w.heap.size, 11, none⟩ = some (.int .i64 0) := (hQ.out w5 hw5).cell 11; have k12 : w5.cell? ⟨w.heap.size, 12, none⟩ = some (.string ByteArray.empty) := (hQ.out w5 hw5).cell 12; have k13 : w5.cell? ⟨w.heap.size, 13, none⟩ = some (.int .i64 n) := (hQ.out w5 hw5).cell 13; go_simp; (try with_reducible rfl))
  (try simp only [Act.put, List.setIfInBounds_toArray, List.set_cons_zero, List.set_cons_succ, List.getElem_toArray, List.getElem_cons_zero, List.getElem_cons_succ])
  refine wpAnyH_take (i := 2) (v := ?_) rfl (by kernel_rfl) (by kernel_rfl) (by kernel_rfl) (fun _ _ _ h => h) (Or.inl ⟨by rfl, ?_⟩) (by assumption) ?_
  rotate_left
  · (intro w5 hw5; (try dsimp only at hw5); have k0 : w5.cell? ⟨w.heap.size, 0, none⟩ = some (.int .i64 7) := (hQ.out w5 hw5).cell 0; have k1 : w5.cell? ⟨w.heap.size, 1, none⟩ = some (.string ByteArray.empty) := (hQ.out w5 hw5).cell 1; have k2 : w5.cell? ⟨w.heap.size, 2, none⟩ = some (.int .i64 0) := (hQ.out w5 hw5).cell 2; have k3 : w5.cell? ⟨w.heap.size, 3, none⟩ = some (.int .i64 0) := (hQ.out w5 hw5).cell 3; have k4 : w5.cell? ⟨w.heap.size, 4, none⟩ = some (.int .i64 0) := (hQ.out w5 hw5).cell 4; have k5 : w5.cell? ⟨w.heap.size, 5, none⟩ = some (.string ByteArray.empty) := (hQ.out w5 hw5).cell 5; have k6 : w5.cell? ⟨w.heap.size, 6, none⟩ = some (.string ByteArray.empty) := (hQ.out w5 hw5).cell 6; have k7 : w5.cell? ⟨w.heap.size, 7, none⟩ = some (.int .i64 0) := (hQ.out w5 hw5).cell 7; have k8 : w5.cell? ⟨w.heap.size, 8, none⟩ = some (.string ByteArray.empty) := (hQ.out w5 hw5).cell 8; have k9 : w5.cell? ⟨w.heap.size, 9, none⟩ = some (.string ByteArray.empty) := (hQ.out w5 hw5).cell 9; have k10 : w5.cell? ⟨w.heap.size, 10, none⟩ = some (.string ByteArray.empty) := (hQ.out w5 hw5).cell 10; have k11 : w5.cell? ⟨w.heap.size, 11, none⟩ = some (.int .i64 0) := (hQ.out w5 hw5).cell 11; have k12 : w5.cell? ⟨w.heap.size, 12, none⟩ = some (.string ByteArray.empty) := (hQ.out w5 hw5).cell 12; have k13 : w5.cell? ⟨w.heap.size, 13, none⟩ = some (.int .i64 n) := (hQ.out w5 hw5).cell 13; go_simp; (try with_reducible rfl))
  (try simp only [Act.put, List.setIfInBounds_toArray, List.set_cons_zero, List.set_cons_succ, List.getElem_toArray, List.getElem_cons_zero, List.getElem_cons_succ])
  refine wpAnyH_take (i := 4) (v := ?_) rfl (by kernel_rfl) (by kernel_rfl) (by kernel_rfl) (fun _ _ _ h => h) (Or.inl ⟨by rfl, ?_⟩) (by assumption) ?_
  rotate_left
  · (intro w5 hw5; (try dsimp only at hw5); have k0 : w5.cell? ⟨w.heap.size, 0, none⟩ = some (.int .i64 7) := (hQ.out w5 hw5).cell 0; have k1 : w5.cell? ⟨w.heap.size, 1, none⟩ = some (.string ByteArray.empty) := (hQ.out w5 hw5).cell 1; have k2 : w5.cell? ⟨w.heap.size, 2, none⟩ = some (.int .i64 0) := (hQ.out w5 hw5).cell 2; have k3 : w5.cell? ⟨w.heap.size, 3, none⟩ = some (.int .i64 0) := (hQ.out w5 hw5).cell 3; have k4 : w5.cell? ⟨w.heap.size, 4, none⟩ = some (.int .i64 0) := (hQ.out w5 hw5).cell 4; have k5 : w5.cell? ⟨w.heap.size, 5, none⟩ = some (.string ByteArray.empty) := (hQ.out w5 hw5).cell 5; have k6 : w5.cell? ⟨w.heap.size, 6, none⟩ = some (.string ByteArray.empty) := (hQ.out w5 hw5).cell 6; have k7 : w5.cell? ⟨w.heap.size, 7, none⟩ = some (.int .i64 0) := (hQ.out w5 hw5).cell 7; have k8 : w5.cell? ⟨w.heap.size, 8, none⟩ = some (.string ByteArray.empty) := (hQ.out w5 hw5).cell 8; have k9 : w5.cell? ⟨w.heap.size, 9, none⟩ = some (.string ByteArray.empty) := (hQ.out w5 hw5).cell 9; have k10 : w5.cell? ⟨w.heap.size, 10, none⟩ = some (.string ByteArray.empty) := (hQ.out w5 hw5).cell 10; have k11 : w5.cell? ⟨w.heap.size, 11, none⟩ = some (.int .i64 0) := (hQ.out w5 hw5).cell 11; have k12 : w5.cell? ⟨w.heap.size, 12, none⟩ = some (.string ByteArray.empty) := (hQ.out w5 hw5).cell 12; have k13 : w5.cell? ⟨w.heap.size, 13, none⟩ = some (.int .i64 n) := (hQ.out w5 hw5).cell 13; go_simp; (try with_reducible rfl))
  (try simp only [Act.put, List.setIfInBounds_toArray, List.set_cons_zero, List.set_cons_succ, List.getElem_toArray, List.getElem_cons_zero, List.getElem_cons_succ])
  refine wpAnyH_ready (rs := [3]) (by kernel_rfl) (by simp) ?_
  refine AllReadyH.cons rfl (fun K hK => ?_) AllReadyH.nil
  go_simp
  refine (whole_any n g _ (hG.out _ A0)).mono ?_
  rintro e u1 ⟨rfl, hb2⟩
  have A1 := Abv.step A0 hb2
  clear hb2
  refine hK.out _ _ ?_ (fun hHeld => ?_)
  · exact A1
  clear hK K
  (try simp only [Act.put, List.setIfInBounds_toArray, List.set_cons_zero, List.set_cons_succ, List.getElem_toArray, List.getElem_cons_zero, List.getElem_cons_succ])
  refine wpAnyH_take (i := 5) (v := ?_) rfl (by kernel_rfl) (by kernel_rfl) (by kernel_rfl) (fun _ _ _ h => h) (Or.inl ⟨by rfl, ?_⟩) (by assumption) ?_
  rotate_left
  · (intro w5 hw5; (try dsimp only at hw5); have k0 : w5.cell? ⟨w.heap.size, 0, none⟩ = some (.int .i64 7) := (hQ.out w5 hw5).cell 0; have k1 : w5.cell? ⟨w.heap.size, 1, none⟩ = some (.string ByteArray.empty) := (hQ.out w5 hw5).cell 1; have k2 : w5.cell? ⟨w.heap.size, 2, none⟩ = some (.int .i64 0) := (hQ.out w5 hw5).cell 2; have k3 : w5.cell? ⟨w.heap.size, 3, none⟩ = some (.int .i64 0) := (hQ.out w5 hw5).cell 3; have k4 : w5.cell? ⟨w.heap.size, 4, none⟩ = some (.int .i64 0) := (hQ.out w5 hw5).cell 4; have k5 : w5.cell? ⟨w.heap.size, 5, none⟩ = some (.string ByteArray.empty) := (hQ.out w5 hw5).cell 5; have k6 : w5.cell? ⟨w.heap.size, 6, none⟩ = some (.string ByteArray.empty) := (hQ.out w5 hw5).cell 6; have k7 : w5.cell? ⟨w.heap.size, 7, none⟩ = some (.int .i64 0) := (hQ.out w5 hw5).cell 7; have k8 : w5.cell? ⟨w.heap.size, 8, none⟩ = some (.string ByteArray.empty) := (hQ.out w5 hw5).cell 8; have k9 : w5.cell? ⟨w.heap.size, 9, none⟩ = some (.string ByteArray.empty) := (hQ.out w5 hw5).cell 9; have k10 : w5.cell? ⟨w.heap.size, 10, none⟩ = some (.string ByteArray.empty) := (hQ.out w5 hw5).cell 10; have k11 : w5.cell? ⟨w.heap.size, 11, none⟩ = some (.int .i64 0) := (hQ.out w5 hw5).cell 11; have k12 : w5.cell? ⟨w.heap.size, 12, none⟩ = some (.string ByteArray.empty) := (hQ.out w5 hw5).cell 12; have k13 : w5.cell? ⟨w.heap.size, 13, none⟩ = some (.int .i64 n) := (hQ.out w5 hw5).cell 13; go_simp; (try with_reducible rfl))
  (try simp only [Act.put, List.setIfInBounds_toArray, List.set_cons_zero, List.set_cons_succ, List.getElem_toArray, List.getElem_cons_zero, List.getElem_cons_succ])
  refine wpAnyH_take (i := 6) (v := ?_) rfl (by kernel_rfl) (by kernel_rfl) (by kernel_rfl) (fun _ _ _ h => h) (Or.inl ⟨by rfl, ?_⟩) (by assumption) ?_
  rotate_left
  · (intro w5 hw5; (try dsimp only at hw5); have k0 : w5.cell? ⟨w.heap.size, 0, none⟩ = some (.int .i64 7) := (hQ.out w5 hw5).cell 0; have k1 : w5.cell? ⟨w.heap.size, 1, none⟩ = some (.string ByteArray.empty) := (hQ.out w5 hw5).cell 1; have k2 : w5.cell? ⟨w.heap.size, 2, none⟩ = some (.int .i64 0) := (hQ.out w5 hw5).cell 2; have k3 : w5.cell? ⟨w.heap.size, 3, none⟩ = some (.int .i64 0) := (hQ.out w5 hw5).cell 3; have k4 : w5.cell? ⟨w.heap.size, 4, none⟩ = some (.int .i64 0) := (hQ.out w5 hw5).cell 4; have k5 : w5.cell? ⟨w.heap.size, 5, none⟩ = some (.string ByteArray.empty) := (hQ.out w5 hw5).cell 5; have k6 : w5.cell? ⟨w.heap.size, 6, none⟩ = some (.string ByteArray.empty) := (hQ.out w5 hw5).cell 6; have k7 : w5.cell? ⟨w.heap.size, 7, none⟩ = some (.int .i64 0) := (hQ.out w5 hw5).cell 7; have k8 : w5.cell? ⟨w.heap.size, 8, none⟩ = some (.string ByteArray.empty) := (hQ.out w5 hw5).cell 8; have k9 : w5.cell? ⟨w.heap.size, 9, none⟩ = some (.string ByteArray.empty) := (hQ.out w5 hw5).cell 9; have k10 : w5.cell? ⟨w.heap.size, 10, none⟩ = some (.string ByteArray.empty) := (hQ.out w5 hw5).cell 10; have k11 : w5.cell? ⟨w.heap.size, 11, none⟩ = some (.int .i64 0) := (hQ.out w5 hw5).cell 11; have k12 : w5.cell? ⟨w.heap.size, 12, none⟩ = some (.string ByteArray.empty) := (hQ.out w5 hw5).cell 12; have k13 : w5.cell? ⟨w.heap.size, 13, none⟩ = some (.int .i64 n) := (hQ.out w5 hw5).cell 13; go_simp; (try with_reducible rfl))
  (try simp only [Act.put, List.setIfInBounds_toArray, List.set_cons_zero, List.set_cons_succ, List.getElem_toArray, List.getElem_cons_zero, List.getElem_cons_succ])
  refine wpAnyH_done (by kernel_rfl) ?_ _
  have hB2 := hB1.trans (Below.mono A1 hB1.size)
  have bg2 := hG.out _ A1
  go_wp2_with fail
  refine (ccheck_any n hn g u1 bg2).mono ?_
  rintro e w3 ⟨rfl, rfl⟩
  go_wp2_with fail
  go_ret
  exact ⟨rfl, hB2⟩
end Go.Proofs.Ytnmokjgnbcfabaa
