/-
  Several texts in one: LessW.
-/
import Derived.Test.YtnmokjgnbcfabaaDoorPkOwn
import Derived.Test.YtnmokjgnbcfabaaDoorPkCopy
import Derived.Test.YtnmokjgnbcfabaaDoorPkStateB
import Derived.Test.YtnmokjgnbcfabaaDoorPkHeld
/-
  The contract of StateLess' own function 'own'.
-/
set_option linter.unusedVariables false
set_option linter.unusedSimpArgs false
namespace Go.Proofs.YtnmokjgnbcfabaaDoor
open Go.RowKit
def LessPost (w : World) (s : St) (e : Ending) (w' : World) : Prop :=
  ∃ q1 q2 q3 d1 d2 d3, e = .returned (.agg #[Value.int .i64 s.rev, Value.slice q1 s.jobs.length d1, Value.slice q2 s.nodes.length d2, Value.slice q3 s.leases.length d3]) ∧ StOwn w' w.heap.size q1 q2 q3 d1 d2 d3 s ∧ Below w.heap.size w w'
set_option maxHeartbeats 4000000 in
set_option maxRecDepth 100000 in
theorem lessOwn_any (g : Nat) (s : St) (p1 p2 p3 : Option Addr) (c1 c2 c3 : Nat) (w : World) (hb : Blk w g 26 #[.int .i64 s.rev, .slice p1 s.jobs.length c1, .slice p2 s.nodes.length c2, .slice p3 s.leases.length c3]) (hm : StM w w.heap.size p1 p2 p3 s)
    (hj : s.jobs.length ≤ 1099511627776) (hn : s.nodes.length ≤ 1099511627776) (hl : s.leases.length ≤ 1099511627776) :
    Calls Tryd.prog 12 #[.pointer (some ⟨g, 0, none⟩)] w fun e w' => LessPost w s e w' := by
  have hzs := zero_state_lit
  have hB0 : Below w.heap.size w (w.alloc (.cells #[Value.int .i64 0, Value.slice none 0 0, Value.slice none 0 0, Value.slice none 0 0] 26)) := (Below.refl _ _).alloc (Nat.le_refl _) _
  have bz := Blk.new w 26 #[Value.int .i64 0, Value.slice none 0 0, Value.slice none 0 0, Value.slice none 0 0]
  have hb0 := hb.alloc (.cells #[Value.int .i64 0, Value.slice none 0 0, Value.slice none 0 0, Value.slice none 0 0] 26)
  have hglt := hb.lt
  have HJ := Lib.hid (fun (W : World) (hW : Below w.heap.size w W) => copyJ_any p1 c1 s.jobs W ((hm.j.below hW).more hW.size) hj)
  have HN := Lib.hid (fun (W : World) (hW : Below w.heap.size w W) => copyN_any p2 c2 s.nodes W ((hm.n.below hW).more hW.size) hn)
  have HL := Lib.hid (fun (W : World) (hW : Below w.heap.size w W) => copyL_any p3 c3 s.leases W ((hm.l.below hW).more hW.size) hl)
  clear hm hb hj hn hl
  go_enter Tryd.func12, Tryd.ntmps12
  go_wp2_with fail
  generalize w.alloc _ = w0 at *
  have hcells : ∀ W : World, GrB w0 w.heap.size W → W.cell? ⟨g, 0, none⟩ = some (.int .i64 s.rev) ∧ W.cell? ⟨g, 1, none⟩ = some (.slice p1 s.jobs.length c1) ∧ W.cell? ⟨g, 2, none⟩ = some (.slice p2 s.nodes.length c2) ∧ W.cell? ⟨g, 3, none⟩ = some (.slice p3 s.leases.length c3) := fun W hW =>
    ⟨(hW.blk hb0 (by omega)).cell 0, (hW.blk hb0 (by omega)).cell 1, (hW.blk hb0 (by omega)).cell 2, (hW.blk hb0 (by omega)).cell 3⟩
  have HQ := Lib.hid hcells
  have G0 : GrB w0 w.heap.size w0.drew := GrB.start _ _
  have A0 : Below w.heap.size w w0.drew := hB0.drew
  have bz0 := bz.drew
  clear hcells hb0
  refine wp_region_held_drew (S := GrB w0 w.heap.size) (by kernel_rfl) G0 (fun hHeld => ?_)
  refine wpAnyH_take (i := 0) (v := ?_) rfl (by kernel_rfl) (by kernel_rfl) (by kernel_rfl) (fun _ _ _ h => h) (Or.inl ⟨by rfl, ?_⟩) (by assumption) ?_
  rotate_left
  · (intro w5 hw5; (try dsimp only at hw5); obtain ⟨k0, k1, k2, k3⟩ := HQ.out w5 hw5; go_simp; (try with_reducible rfl))
  (try simp only [Act.put, List.setIfInBounds_toArray, List.set_cons_zero, List.set_cons_succ, List.getElem_toArray, List.getElem_cons_zero, List.getElem_cons_succ])
  refine wpAnyH_take (i := 1) (v := ?_) rfl (by kernel_rfl) (by kernel_rfl) (by kernel_rfl) (fun _ _ _ h => h) (Or.inl ⟨by rfl, ?_⟩) (by assumption) ?_
  rotate_left
  · (intro w5 hw5; (try dsimp only at hw5); obtain ⟨k0, k1, k2, k3⟩ := HQ.out w5 hw5; go_simp; (try with_reducible rfl))
  (try simp only [Act.put, List.setIfInBounds_toArray, List.set_cons_zero, List.set_cons_succ, List.getElem_toArray, List.getElem_cons_zero, List.getElem_cons_succ])
  refine wpAnyH_take (i := 2) (v := ?_) rfl (by kernel_rfl) (by kernel_rfl) (by kernel_rfl) (fun _ _ _ h => h) (Or.inl ⟨by rfl, ?_⟩) (by assumption) ?_
  rotate_left
  · (intro w5 hw5; (try dsimp only at hw5); obtain ⟨k0, k1, k2, k3⟩ := HQ.out w5 hw5; go_simp; (try with_reducible rfl))
  (try simp only [Act.put, List.setIfInBounds_toArray, List.set_cons_zero, List.set_cons_succ, List.getElem_toArray, List.getElem_cons_zero, List.getElem_cons_succ])
  refine wpAnyH_take (i := 3) (v := ?_) rfl (by kernel_rfl) (by kernel_rfl) (by kernel_rfl) (fun _ _ _ h => h) (Or.inl ⟨by rfl, ?_⟩) (by assumption) ?_
  rotate_left
  · (intro w5 hw5; (try dsimp only at hw5); obtain ⟨k0, k1, k2, k3⟩ := HQ.out w5 hw5; go_simp; (try with_reducible rfl))
  (try simp only [Act.put, List.setIfInBounds_toArray, List.set_cons_zero, List.set_cons_succ, List.getElem_toArray, List.getElem_cons_zero, List.getElem_cons_succ])
  refine wpAnyH_take (i := 5) (v := ?_) rfl (by kernel_rfl) (by kernel_rfl) (by kernel_rfl) (fun _ _ _ h => h) (Or.inl ⟨by rfl, ?_⟩) (by assumption) ?_
  rotate_left
  · (intro w5 hw5; (try dsimp only at hw5); obtain ⟨k0, k1, k2, k3⟩ := HQ.out w5 hw5; go_simp; (try with_reducible rfl))
  (try simp only [Act.put, List.setIfInBounds_toArray, List.set_cons_zero, List.set_cons_succ, List.getElem_toArray, List.getElem_cons_zero, List.getElem_cons_succ])
  refine wpAnyH_take (i := 6) (v := ?_) rfl (by kernel_rfl) (by kernel_rfl) (by kernel_rfl) (fun _ _ _ h => h) (Or.inl ⟨by rfl, ?_⟩) (by assumption) ?_
  rotate_left
  · (intro w5 hw5; (try dsimp only at hw5); obtain ⟨k0, k1, k2, k3⟩ := HQ.out w5 hw5; go_simp; (try with_reducible rfl))
  (try simp only [Act.put, List.setIfInBounds_toArray, List.set_cons_zero, List.set_cons_succ, List.getElem_toArray, List.getElem_cons_zero, List.getElem_cons_succ])
  refine wpAnyH_take (i := 8) (v := ?_) rfl (by kernel_rfl) (by kernel_rfl) (by kernel_rfl) (fun _ _ _ h => h) (Or.inl ⟨by rfl, ?_⟩) (by assumption) ?_
  rotate_left
  · (intro w5 hw5; (try dsimp only at hw5); obtain ⟨k0, k1, k2, k3⟩ := HQ.out w5 hw5; go_simp; (try with_reducible rfl))
  (try simp only [Act.put, List.setIfInBounds_toArray, List.set_cons_zero, List.set_cons_succ, List.getElem_toArray, List.getElem_cons_zero, List.getElem_cons_succ])
  refine wpAnyH_take (i := 9) (v := ?_) rfl (by kernel_rfl) (by kernel_rfl) (by kernel_rfl) (fun _ _ _ h => h) (Or.inl ⟨by rfl, ?_⟩) (by assumption) ?_
  rotate_left
  · (intro w5 hw5; (try dsimp only at hw5); obtain ⟨k0, k1, k2, k3⟩ := HQ.out w5 hw5; go_simp; (try with_reducible rfl))
  (try simp only [Act.put, List.setIfInBounds_toArray, List.set_cons_zero, List.set_cons_succ, List.getElem_toArray, List.getElem_cons_zero, List.getElem_cons_succ])
  refine wpAnyH_ready (rs := [4]) (by kernel_rfl) (by simp) ?_
  refine AllReadyH.cons rfl (fun K hK => ?_) AllReadyH.nil
  go_simp
  refine (HJ.out _ A0).mono ?_
  rintro e w1 ⟨q1, d1, rfl, O1, hb1⟩
  (try simp only [List.length_map])
  have A1 := A0.trans (hb1.mono A0.size)
  have G1 := GrB.more G0 hb1
  have bz1 := bz0.below hb1 bz0.lt
  refine hK.out _ _ ?_ (fun hHeld => ?_)
  · exact G1
  clear hK K
  (try simp only [Act.put, List.setIfInBounds_toArray, List.set_cons_zero, List.set_cons_succ, List.getElem_toArray, List.getElem_cons_zero, List.getElem_cons_succ])
  refine wpAnyH_ready (rs := [7]) (by kernel_rfl) (by simp) ?_
  refine AllReadyH.cons rfl (fun K hK => ?_) AllReadyH.nil
  go_simp
  refine (HN.out _ A1).mono ?_
  rintro e w2 ⟨q2, d2, rfl, O2, hb2⟩
  (try simp only [List.length_map])
  have A2 := A1.trans (hb2.mono A1.size)
  have G2 := GrB.more G1 hb2
  have bz2 := bz1.below hb2 bz1.lt
  refine hK.out _ _ ?_ (fun hHeld => ?_)
  · exact G2
  clear hK K
  (try simp only [Act.put, List.setIfInBounds_toArray, List.set_cons_zero, List.set_cons_succ, List.getElem_toArray, List.getElem_cons_zero, List.getElem_cons_succ])
  refine wpAnyH_ready (rs := [10]) (by kernel_rfl) (by simp) ?_
  refine AllReadyH.cons rfl (fun K hK => ?_) AllReadyH.nil
  go_simp
  refine (HL.out _ A2).mono ?_
  rintro e w3 ⟨q3, d3, rfl, O3, hb3⟩
  (try simp only [List.length_map])
  have A3 := A2.trans (hb3.mono A2.size)
  have G3 := GrB.more G2 hb3
  have bz3 := bz2.below hb3 bz2.lt
  refine hK.out _ _ ?_ (fun hHeld => ?_)
  · exact G3
  clear hK K
  (try simp only [Act.put, List.setIfInBounds_toArray, List.set_cons_zero, List.set_cons_succ, List.getElem_toArray, List.getElem_cons_zero, List.getElem_cons_succ])
  refine wpAnyH_take (i := 11) (v := ?_) rfl (by kernel_rfl) (by kernel_rfl) (by kernel_rfl) (fun _ _ _ h => h) (Or.inl ⟨by rfl, ?_⟩) (by assumption) ?_
  rotate_left
  · (intro w5 hw5; (try dsimp only at hw5); obtain ⟨k0, k1, k2, k3⟩ := HQ.out w5 hw5; go_simp; (try with_reducible rfl))
  (try simp only [Act.put, List.setIfInBounds_toArray, List.set_cons_zero, List.set_cons_succ, List.getElem_toArray, List.getElem_cons_zero, List.getElem_cons_succ])
  refine wpAnyH_ready (rs := [12]) (by kernel_rfl) (by simp) ?_
  refine AllReadyH.cons rfl (fun K hK => ?_) AllReadyH.nil
  refine step_store_blk rfl _ _ _ rfl w.heap.size rfl _ _ #[Value.int .i64 s.rev, Value.slice q1 s.jobs.length d1, Value.slice q2 s.nodes.length d2, Value.slice q3 s.leases.length d3] bz3 rfl state_size rfl (one_st4 _ _ _ _ _ _ _ _ _ _) ?_
  refine hK.out _ _ ?_ (fun hHeld => ?_)
  · exact GrB.row G3 _
  clear hK K
  (try simp only [Act.put, List.setIfInBounds_toArray, List.set_cons_zero, List.set_cons_succ, List.getElem_toArray, List.getElem_cons_zero, List.getElem_cons_succ])
  refine wpAnyH_done (by kernel_rfl) ?_ _
  have hS3 : StOwn w3 w.heap.size q1 q2 q3 d1 d2 d3 s := ⟨(((Own.of O1).below (B := 0) hb2).below (B := 0) hb3).less A0.size, ((Own.of O2).below (B := 0) hb3).less A1.size, (Own.of O3).less A2.size⟩
  have hS4 := Lib.hid (hS3.other (growR w3 w.heap.size #[Value.int .i64 s.rev, Value.slice q1 s.jobs.length d1, Value.slice q2 s.nodes.length d2, Value.slice q3 s.leases.length d3]) bz3 (by decide) (by decide) (by decide))
  have hB4 := Lib.hid (below_setRow A3 (Nat.le_refl _) #[Value.int .i64 s.rev, Value.slice q1 s.jobs.length d1, Value.slice q2 s.nodes.length d2, Value.slice q3 s.leases.length d3])
  clear hS3
  go_wp2_with fail
  refine bodyPost_ret (results_cell1 rfl _ rfl (bz3.setRow #[Value.int .i64 s.rev, Value.slice q1 s.jobs.length d1, Value.slice q2 s.nodes.length d2, Value.slice q3 s.leases.length d3]) Tryd.underlying26 rfl state_size) rfl ?_
  exact ⟨q1, q2, q3, d1, d2, d3, rfl, hS4.out, hB4.out⟩
end Go.Proofs.YtnmokjgnbcfabaaDoor
