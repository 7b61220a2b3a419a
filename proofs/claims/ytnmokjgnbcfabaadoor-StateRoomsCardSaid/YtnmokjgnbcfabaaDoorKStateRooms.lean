/-
  The law StateRooms of package brackenkeep: for every input it answers true.
-/
import Derived.Test.YtnmokjgnbcfabaaDoorRows
import Derived.Test.YtnmokjgnbcfabaaDoorPkBase
import Derived.Test.YtnmokjgnbcfabaaDoorPkCopy
import Derived.Test.YtnmokjgnbcfabaaDoorPkHeld
import Derived.Test.YtnmokjgnbcfabaaDoorPkFineSz
import Derived.Test.YtnmokjgnbcfabaaDoorPkSums
import Derived.Test.YtnmokjgnbcfabaaDoorPkAt
import Derived.Test.YtnmokjgnbcfabaaDoorPkUsed
import Derived.Test.YtnmokjgnbcfabaaDoorPkStateB
import Derived.Test.YtnmokjgnbcfabaaDoorPkOwnD
import Derived.Deep.RegionLaw
import Derived.IntWalk
set_option linter.unusedVariables false
set_option linter.unusedSimpArgs false
namespace Go.Proofs.YtnmokjgnbcfabaaDoor.stateRooms
open Go.ChangeShapes Go.WideShapes Go.ChangeAt Go.RowKit Go.Joins
open Go.ChangeMaps (open_string)
theorem rest_nat (a : Int) (l : Nat) (h0 : 0 < l) (hl : l ≤ 4611686018427387904) : ∃ i : Nat, i < l ∧ Hid (∀ W : World, Calls Tryd.prog 16 #[.int .i64 a, .int .i64 (l : Int)] W fun e w' => e = .returned (.int .i64 (i : Int)) ∧ W = w') := by
  have h := fun W : World => rest_any a (l : Int) W (by omega) (by omega)
  have ha := Int.emod_nonneg a (show (l : Int) ≠ 0 by omega)
  have hb := Int.emod_lt_of_pos a (show (0 : Int) < (l : Int) by omega)
  obtain ⟨i, hi⟩ := Int.eq_ofNat_of_zero_le ha
  rw [hi] at h hb
  exact ⟨i, by omega, h⟩
theorem rest_int (a l : Int) (h0 : 0 < l) (hl : l ≤ 4611686018427387904) : ∃ r : Int, (0 ≤ r ∧ r < l) ∧ Hid (∀ W : World, Calls Tryd.prog 16 #[.int .i64 a, .int .i64 l] W fun e w' => e = .returned (.int .i64 r) ∧ W = w') :=
  ⟨a % l, ⟨Int.emod_nonneg a (by omega), Int.emod_lt_of_pos a h0⟩, fun W : World => rest_any a l W h0 (by omega)⟩
def RoomsRel (w : World) (s : St) (p3 : Option Addr) (c3 : Nat) (t : Value) (wx : World) : Prop :=
  ∃ gt q1 d1 q2 d2, t = .pointer (some ⟨gt, 0, none⟩) ∧ Blk wx gt 26 #[Value.int .i64 s.rev, Value.slice q1 s.jobs.length d1, Value.slice q2 s.nodes.length d2, Value.slice p3 s.leases.length c3] ∧ Own wx w.heap.size 32 5 q1 d1 (s.jobs.map rowJ) ∧ Own wx w.heap.size 35 3 q2 d2 (s.nodes.map rowN) ∧ Below w.heap.size w wx ∧ w.heap.size ≤ gt
def Rooms2 (w : World) (s : St) (p3 : Option Addr) (c3 : Nat) (t : Value) (wx : World) : Prop :=
  ∃ ns, Fine ⟨s.rev, s.jobs, ns, s.leases⟩ ∧ RoomsRel w ⟨s.rev, s.jobs, ns, s.leases⟩ p3 c3 t wx
def Rooms3 (w : World) (s : St) (p3 : Option Addr) (c3 : Nat) (t : Value) (wx : World) : Prop :=
  ∃ js ns, Fine ⟨s.rev, js, ns, s.leases⟩ ∧ RoomsRel w ⟨s.rev, js, ns, s.leases⟩ p3 c3 t wx
set_option maxHeartbeats 8000000 in
set_option maxRecDepth 100000 in
theorem walk (s : St) (p1 p2 p3 : Option Addr) (c1 c2 c3 : Nat) (w : World) (hm : StM w w.heap.size p1 p2 p3 s) (hk : StOk s) (n : Int) (n1 : -9223372036854775808 ≤ n) (n2 : n ≤ 9223372036854775807) (mo : Int) (m1 : -9223372036854775808 ≤ mo) (m2 : mo ≤ 9223372036854775807) (hT : Tabs w) :
    Calls Tryd.prog 5 #[.agg #[.int .i64 s.rev, .slice p1 s.jobs.length c1, .slice p2 s.nodes.length c2, .slice p3 s.leases.length c3], .int .i64 n, .int .i64 mo] w fun e w' => e = .returned (.bool true) ∧ Below w.heap.size w w' := by
  have hb0 : Below w.heap.size w (w.alloc (.cells #[Value.int .i64 s.rev, Value.slice p1 s.jobs.length c1, Value.slice p2 s.nodes.length c2, Value.slice p3 s.leases.length c3] 26)) := (Below.refl _ _).alloc (Nat.le_refl _) _
  have bx0 := Blk.new w 26 #[Value.int .i64 s.rev, Value.slice p1 s.jobs.length c1, Value.slice p2 s.nodes.length c2, Value.slice p3 s.leases.length c3]
  have hz := hk.sz
  have HM := Lib.hid hm
  have HZ := Lib.hid hz
  have HT := Lib.hid hT
  have hzs := zero_state_lit
  have HC := Lib.hid (fun (W : World) (hW : Below w.heap.size w W) => stCheck_any s p1 p2 p3 c1 c2 c3 W ((hm.below hW).more hW.size) hz (hT.below hW))
  clear hm hk hz hT
  by_cases hc : checkE s = 0
  · have hF := (fine_iff s).1 hc
    have lj : s.jobs.length ≤ 40 := hF.nj
    have ln : s.nodes.length ≤ 20 := hF.nn
    have ll : s.leases.length ≤ 40 := hF.nl
    have HF := Lib.hid hF
    have hck := HC.out
    rw [hc] at hck
    have HC0 := Lib.hid hck
    clear hF hc hck HC
    go_enter Tryd.func5, Tryd.ntmps5
    go_wp2_with fail
    generalize w.alloc _ = W_1 at *
    refine (stated_any _ (HT.out.below hb0)).mono ?_
    rintro e w_2 ⟨rfl, hb_3⟩
    have b_4 := bx0.below hb_3 bx0.lt
    have c_5 := hb0.trans (hb_3.mono hb0.size)
    clear bx0 hb0 hb_3
    go_wp2_with (first | (refine wpList_load_blk_w (by rfl) _ _ rfl (w.heap.size) rfl _ #[Value.int .i64 s.rev, Value.slice p1 s.jobs.length c1, Value.slice p2 s.nodes.length c2, Value.slice p3 s.leases.length c3] b_4 _ Tryd.underlying26 rfl state_size ?_))
    refine (HC0.out _ c_5).mono ?_
    rintro e w_6 ⟨rfl, hb_7⟩
    have b_8 := b_4.below hb_7 b_4.lt
    have c_9 := c_5.trans (hb_7.mono c_5.size)
    clear b_4 c_5 hb_7
    have z0 : (((0 : Nat) : Int) != 0) = false := rfl
    go_upto_region 5 with (fail)
    clear z0
    go_cut [7] (fun t wx => RoomsRel w_6 s p3 c3 t wx)
    case first =>
      have hcells : ∀ X : World, Abv w_6 X → X.cell? ⟨w.heap.size, 0, none⟩ = some (.int .i64 s.rev) ∧ X.cell? ⟨w.heap.size, 1, none⟩ = some (.slice p1 s.jobs.length c1) ∧ X.cell? ⟨w.heap.size, 2, none⟩ = some (.slice p2 s.nodes.length c2) ∧ X.cell? ⟨w.heap.size, 3, none⟩ = some (.slice p3 s.leases.length c3) := fun X hX => ⟨(b_8.below hX b_8.lt).cell 0, (b_8.below hX b_8.lt).cell 1, (b_8.below hX b_8.lt).cell 2, (b_8.below hX b_8.lt).cell 3⟩
      have HQ := Lib.hid hcells
      have HJ := Lib.hid (fun (X : World) (hX : Abv w_6 X) => copyJ_any p1 c1 s.jobs X ((HM.out.j.below (c_9.trans (Below.mono hX c_9.size))).more (Nat.le_trans c_9.size hX.size)) (by omega))
      have HN := Lib.hid (fun (X : World) (hX : Abv w_6 X) => copyN_any p2 c2 s.nodes X ((HM.out.n.below (c_9.trans (Below.mono hX c_9.size))).more (Nat.le_trans c_9.size hX.size)) (by omega))
      have A0 : Abv w_6 w_6.drew := (Below.refl _ _).drew
      clear hcells
      refine wp_region_held_drew (S := Abv w_6) (by kernel_rfl) A0 (fun hHeld => ?_)
      refine wpAnyH_take (i := 0) (v := ?_) rfl (by kernel_rfl) (by kernel_rfl) (by kernel_rfl) (fun _ _ _ h => h) (Or.inl ⟨by rfl, ?_⟩) (by assumption) ?_
      rotate_left
      · (intro w5 hw5; (try dsimp only at hw5); obtain ⟨k0, k1, k2, k3⟩ := HQ.out w5 hw5; go_simp; (try with_reducible rfl))
      (try simp only [Act.put, List.setIfInBounds_toArray, List.set_cons_zero, List.set_cons_succ, List.getElem_toArray, List.getElem_cons_zero, List.getElem_cons_succ])
      refine wpAnyH_take (i := 1) (v := ?_) rfl (by kernel_rfl) (by kernel_rfl) (by kernel_rfl) (fun _ _ _ h => h) (Or.inl ⟨by rfl, ?_⟩) (by assumption) ?_
      rotate_left
      · (intro w5 hw5; (try dsimp only at hw5); obtain ⟨k0, k1, k2, k3⟩ := HQ.out w5 hw5; go_simp; (try with_reducible rfl))
      (try simp only [Act.put, List.setIfInBounds_toArray, List.set_cons_zero, List.set_cons_succ, List.getElem_toArray, List.getElem_cons_zero, List.getElem_cons_succ])
      refine wpAnyH_take (i := 2) (v := ?_) rfl (by kernel_rfl) (by kernel_rfl) (by kernel_rfl) (fun _ _ _ h => h) (Or.inl ⟨by rfl, ?_⟩) (by assumption) ?_
      rotate_left
      · (intro w5 hw5; (try dsimp only at hw5); obtain ⟨k0, k1, k2, k3⟩ := HQ.out w5 hw5; go_simp; (try with_reducible rfl))
      (try simp only [Act.put, List.setIfInBounds_toArray, List.set_cons_zero, List.set_cons_succ, List.getElem_toArray, List.getElem_cons_zero, List.getElem_cons_succ])
      refine wpAnyH_take (i := 3) (v := ?_) rfl (by kernel_rfl) (by kernel_rfl) (by kernel_rfl) (fun _ _ _ h => h) (Or.inl ⟨by rfl, ?_⟩) (by assumption) ?_
      rotate_left
      · (intro w5 hw5; (try dsimp only at hw5); obtain ⟨k0, k1, k2, k3⟩ := HQ.out w5 hw5; go_simp; (try with_reducible rfl))
      (try simp only [Act.put, List.setIfInBounds_toArray, List.set_cons_zero, List.set_cons_succ, List.getElem_toArray, List.getElem_cons_zero, List.getElem_cons_succ])
      refine wpAnyH_take (i := 5) (v := ?_) rfl (by kernel_rfl) (by kernel_rfl) (by kernel_rfl) (fun _ _ _ h => h) (Or.inl ⟨by rfl, ?_⟩) (by assumption) ?_
      rotate_left
      · (intro w5 hw5; (try dsimp only at hw5); obtain ⟨k0, k1, k2, k3⟩ := HQ.out w5 hw5; go_simp; (try with_reducible rfl))
      (try simp only [Act.put, List.setIfInBounds_toArray, List.set_cons_zero, List.set_cons_succ, List.getElem_toArray, List.getElem_cons_zero, List.getElem_cons_succ])
      refine wpAnyH_take (i := 6) (v := ?_) rfl (by kernel_rfl) (by kernel_rfl) (by kernel_rfl) (fun _ _ _ h => h) (Or.inl ⟨by rfl, ?_⟩) (by assumption) ?_
      rotate_left
      · (intro w5 hw5; (try dsimp only at hw5); obtain ⟨k0, k1, k2, k3⟩ := HQ.out w5 hw5; go_simp; (try with_reducible rfl))
      (try simp only [Act.put, List.setIfInBounds_toArray, List.set_cons_zero, List.set_cons_succ, List.getElem_toArray, List.getElem_cons_zero, List.getElem_cons_succ])
      refine wpAnyH_take (i := 8) (v := ?_) rfl (by kernel_rfl) (by kernel_rfl) (by kernel_rfl) (fun _ _ _ h => h) (Or.inl ⟨by rfl, ?_⟩) (by assumption) ?_
      rotate_left
      · (intro w5 hw5; (try dsimp only at hw5); obtain ⟨k0, k1, k2, k3⟩ := HQ.out w5 hw5; go_simp; (try with_reducible rfl))
      (try simp only [Act.put, List.setIfInBounds_toArray, List.set_cons_zero, List.set_cons_succ, List.getElem_toArray, List.getElem_cons_zero, List.getElem_cons_succ])
      refine wpAnyH_take (i := 9) (v := ?_) rfl (by kernel_rfl) (by kernel_rfl) (by kernel_rfl) (fun _ _ _ h => h) (Or.inl ⟨by rfl, ?_⟩) (by assumption) ?_
      rotate_left
      · (intro w5 hw5; (try dsimp only at hw5); obtain ⟨k0, k1, k2, k3⟩ := HQ.out w5 hw5; go_simp; (try with_reducible rfl))
      (try simp only [Act.put, List.setIfInBounds_toArray, List.set_cons_zero, List.set_cons_succ, List.getElem_toArray, List.getElem_cons_zero, List.getElem_cons_succ])
      refine wpAnyH_ready (rs := [4, 11]) (by kernel_rfl) (by simp) ?_
      refine (AllReadyH.cons rfl (fun K hK => ?_) (AllReadyH.cons rfl (fun K hK => ?_) AllReadyH.nil))
      · skip
        go_simp
        refine (HJ.out _ A0).mono ?_
        rintro e x1 ⟨q1, d1, rfl, OJ1, hb1⟩
        (try simp only [List.length_map])
        have A1 := Abv.step A0 hb1
        refine hK.out _ _ ?_ (fun hHeld => ?_)
        · exact A1
        clear hK K
        (try simp only [Act.put, List.setIfInBounds_toArray, List.set_cons_zero, List.set_cons_succ, List.getElem_toArray, List.getElem_cons_zero, List.getElem_cons_succ])
        refine wpAnyH_ready (rs := [7, 11]) (by kernel_rfl) (by simp) ?_
        refine (AllReadyH.cons rfl (fun K hK => ?_) (AllReadyH.cons rfl (fun K hK => ?_) AllReadyH.nil))
        · skip
          go_simp
          refine (HN.out _ A1).mono ?_
          rintro e x2 ⟨q2, d2, rfl, ON2, hb2⟩
          (try simp only [List.length_map])
          have A2 := Abv.step A1 hb2
          refine hK.out _ _ ?_ (fun hHeld => ?_)
          · exact A2
          clear hK K
          (try simp only [Act.put, List.setIfInBounds_toArray, List.set_cons_zero, List.set_cons_succ, List.getElem_toArray, List.getElem_cons_zero, List.getElem_cons_succ])
          refine wpAnyH_take (i := 10) (v := ?_) rfl (by kernel_rfl) (by kernel_rfl) (by kernel_rfl) (fun _ _ _ h => h) (Or.inl ⟨by rfl, ?_⟩) (by assumption) ?_
          rotate_left
          · (intro w5 hw5; (try dsimp only at hw5); obtain ⟨k0, k1, k2, k3⟩ := HQ.out w5 hw5; go_simp; (try with_reducible rfl))
          (try simp only [Act.put, List.setIfInBounds_toArray, List.set_cons_zero, List.set_cons_succ, List.getElem_toArray, List.getElem_cons_zero, List.getElem_cons_succ])
          refine wpAnyH_ready (rs := [11]) (by kernel_rfl) (by simp) ?_
          refine (AllReadyH.cons rfl (fun K hK => ?_) AllReadyH.nil)
          · skip
            go_simp
            have y3 : Below x2.heap.size x2 (x2.alloc (.cells #[Value.int .i64 0, Value.slice none 0 0, Value.slice none 0 0, Value.slice none 0 0] 26)) := (Below.refl _ _).alloc (Nat.le_refl _) _
            have A3 : Abv w_6 (x2.alloc (.cells #[Value.int .i64 0, Value.slice none 0 0, Value.slice none 0 0, Value.slice none 0 0] 26)) := Abv.step A2 y3
            have z3 := Blk.new x2 26 #[Value.int .i64 0, Value.slice none 0 0, Value.slice none 0 0, Value.slice none 0 0]
            refine hK.out _ _ ?_ (fun hHeld => ?_)
            · exact A3
            clear hK K
            (try simp only [Act.put, List.setIfInBounds_toArray, List.set_cons_zero, List.set_cons_succ, List.getElem_toArray, List.getElem_cons_zero, List.getElem_cons_succ])
            refine wpAnyH_ready (rs := [12]) (by kernel_rfl) (by simp) ?_
            refine AllReadyH.cons rfl (fun K hK => ?_) AllReadyH.nil
            refine step_store_blk rfl _ _ _ rfl (x2.heap.size) rfl _ _ #[Value.int .i64 s.rev, Value.slice q1 s.jobs.length d1, Value.slice q2 s.nodes.length d2, Value.slice p3 s.leases.length c3] z3 rfl state_size rfl (one_st4 _ _ _ _ _ _ _ _ _ _) ?_
            refine hK.out _ _ ?_ (fun hHeld => ?_)
            · exact below_setRow A3 (by have h1 := A2; have h2 := Below.size h1; simp at h2 ⊢; try omega) #[Value.int .i64 s.rev, Value.slice q1 s.jobs.length d1, Value.slice q2 s.nodes.length d2, Value.slice p3 s.leases.length c3]
            clear hK K
            (try simp only [Act.put, List.setIfInBounds_toArray, List.set_cons_zero, List.set_cons_succ, List.getElem_toArray, List.getElem_cons_zero, List.getElem_cons_succ])
            refine wpAnyH_done (by kernel_rfl) ?_ _
            go_wp2_with fail
            go_meet
            have hlt := z3.lt
            have hgt : w_6.heap.size ≤ x2.heap.size := by have h1 := A2; have h2 := Below.size h1; simp at h2 ⊢; try omega
            have oj := ((((Own.of OJ1).less A0.size).below (B := 0) hb2).below (B := 0) y3)
            have on := (((Own.of ON2).less A1.size).below (B := 0) y3)
            exact ⟨x2.heap.size, q1, d1, q2, d2, rfl, z3.setRow _, oj.other (growR _ _ _) z3 (by decide), on.other (growR _ _ _) z3 (by decide), below_setRow A3 hgt _, hgt⟩
        · skip
          go_simp
          have y5 : Below x1.heap.size x1 (x1.alloc (.cells #[Value.int .i64 0, Value.slice none 0 0, Value.slice none 0 0, Value.slice none 0 0] 26)) := (Below.refl _ _).alloc (Nat.le_refl _) _
          have A5 : Abv w_6 (x1.alloc (.cells #[Value.int .i64 0, Value.slice none 0 0, Value.slice none 0 0, Value.slice none 0 0] 26)) := Abv.step A1 y5
          have z5 := Blk.new x1 26 #[Value.int .i64 0, Value.slice none 0 0, Value.slice none 0 0, Value.slice none 0 0]
          refine hK.out _ _ ?_ (fun hHeld => ?_)
          · exact A5
          clear hK K
          (try simp only [Act.put, List.setIfInBounds_toArray, List.set_cons_zero, List.set_cons_succ, List.getElem_toArray, List.getElem_cons_zero, List.getElem_cons_succ])
          refine wpAnyH_ready (rs := [7]) (by kernel_rfl) (by simp) ?_
          refine (AllReadyH.cons rfl (fun K hK => ?_) AllReadyH.nil)
          · skip
            go_simp
            refine (HN.out _ A5).mono ?_
            rintro e x6 ⟨q2, d2, rfl, ON6, hb6⟩
            (try simp only [List.length_map])
            have A6 := Abv.step A5 hb6
            have z6 := z5.below hb6 z5.lt
            refine hK.out _ _ ?_ (fun hHeld => ?_)
            · exact A6
            clear hK K
            (try simp only [Act.put, List.setIfInBounds_toArray, List.set_cons_zero, List.set_cons_succ, List.getElem_toArray, List.getElem_cons_zero, List.getElem_cons_succ])
            refine wpAnyH_take (i := 10) (v := ?_) rfl (by kernel_rfl) (by kernel_rfl) (by kernel_rfl) (fun _ _ _ h => h) (Or.inl ⟨by rfl, ?_⟩) (by assumption) ?_
            rotate_left
            · (intro w5 hw5; (try dsimp only at hw5); obtain ⟨k0, k1, k2, k3⟩ := HQ.out w5 hw5; go_simp; (try with_reducible rfl))
            (try simp only [Act.put, List.setIfInBounds_toArray, List.set_cons_zero, List.set_cons_succ, List.getElem_toArray, List.getElem_cons_zero, List.getElem_cons_succ])
            refine wpAnyH_ready (rs := [12]) (by kernel_rfl) (by simp) ?_
            refine AllReadyH.cons rfl (fun K hK => ?_) AllReadyH.nil
            refine step_store_blk rfl _ _ _ rfl (x1.heap.size) rfl _ _ #[Value.int .i64 s.rev, Value.slice q1 s.jobs.length d1, Value.slice q2 s.nodes.length d2, Value.slice p3 s.leases.length c3] z6 rfl state_size rfl (one_st4 _ _ _ _ _ _ _ _ _ _) ?_
            refine hK.out _ _ ?_ (fun hHeld => ?_)
            · exact below_setRow A6 (by have h1 := A1; have h2 := Below.size h1; simp at h2 ⊢; try omega) #[Value.int .i64 s.rev, Value.slice q1 s.jobs.length d1, Value.slice q2 s.nodes.length d2, Value.slice p3 s.leases.length c3]
            clear hK K
            (try simp only [Act.put, List.setIfInBounds_toArray, List.set_cons_zero, List.set_cons_succ, List.getElem_toArray, List.getElem_cons_zero, List.getElem_cons_succ])
            refine wpAnyH_done (by kernel_rfl) ?_ _
            go_wp2_with fail
            go_meet
            have hlt := z6.lt
            have hgt : w_6.heap.size ≤ x1.heap.size := by have h1 := A1; have h2 := Below.size h1; simp at h2 ⊢; try omega
            have oj := ((((Own.of OJ1).less A0.size).below (B := 0) y5).below (B := 0) hb6)
            have on := ((Own.of ON6).less A5.size)
            exact ⟨x1.heap.size, q1, d1, q2, d2, rfl, z6.setRow _, oj.other (growR _ _ _) z6 (by decide), on.other (growR _ _ _) z6 (by decide), below_setRow A6 hgt _, hgt⟩
      · skip
        go_simp
        have y8 : Below w_6.drew.heap.size w_6.drew (w_6.drew.alloc (.cells #[Value.int .i64 0, Value.slice none 0 0, Value.slice none 0 0, Value.slice none 0 0] 26)) := (Below.refl _ _).alloc (Nat.le_refl _) _
        have A8 : Abv w_6 (w_6.drew.alloc (.cells #[Value.int .i64 0, Value.slice none 0 0, Value.slice none 0 0, Value.slice none 0 0] 26)) := Abv.step A0 y8
        have z8 := Blk.new w_6.drew 26 #[Value.int .i64 0, Value.slice none 0 0, Value.slice none 0 0, Value.slice none 0 0]
        refine hK.out _ _ ?_ (fun hHeld => ?_)
        · exact A8
        clear hK K
        (try simp only [Act.put, List.setIfInBounds_toArray, List.set_cons_zero, List.set_cons_succ, List.getElem_toArray, List.getElem_cons_zero, List.getElem_cons_succ])
        refine wpAnyH_ready (rs := [4]) (by kernel_rfl) (by simp) ?_
        refine (AllReadyH.cons rfl (fun K hK => ?_) AllReadyH.nil)
        · skip
          go_simp
          refine (HJ.out _ A8).mono ?_
          rintro e x9 ⟨q1, d1, rfl, OJ9, hb9⟩
          (try simp only [List.length_map])
          have A9 := Abv.step A8 hb9
          have z9 := z8.below hb9 z8.lt
          refine hK.out _ _ ?_ (fun hHeld => ?_)
          · exact A9
          clear hK K
          (try simp only [Act.put, List.setIfInBounds_toArray, List.set_cons_zero, List.set_cons_succ, List.getElem_toArray, List.getElem_cons_zero, List.getElem_cons_succ])
          refine wpAnyH_ready (rs := [7]) (by kernel_rfl) (by simp) ?_
          refine (AllReadyH.cons rfl (fun K hK => ?_) AllReadyH.nil)
          · skip
            go_simp
            refine (HN.out _ A9).mono ?_
            rintro e x10 ⟨q2, d2, rfl, ON10, hb10⟩
            (try simp only [List.length_map])
            have A10 := Abv.step A9 hb10
            have z10 := z9.below hb10 z9.lt
            refine hK.out _ _ ?_ (fun hHeld => ?_)
            · exact A10
            clear hK K
            (try simp only [Act.put, List.setIfInBounds_toArray, List.set_cons_zero, List.set_cons_succ, List.getElem_toArray, List.getElem_cons_zero, List.getElem_cons_succ])
            refine wpAnyH_take (i := 10) (v := ?_) rfl (by kernel_rfl) (by kernel_rfl) (by kernel_rfl) (fun _ _ _ h => h) (Or.inl ⟨by rfl, ?_⟩) (by assumption) ?_
            rotate_left
            · (intro w5 hw5; (try dsimp only at hw5); obtain ⟨k0, k1, k2, k3⟩ := HQ.out w5 hw5; go_simp; (try with_reducible rfl))
            (try simp only [Act.put, List.setIfInBounds_toArray, List.set_cons_zero, List.set_cons_succ, List.getElem_toArray, List.getElem_cons_zero, List.getElem_cons_succ])
            refine wpAnyH_ready (rs := [12]) (by kernel_rfl) (by simp) ?_
            refine AllReadyH.cons rfl (fun K hK => ?_) AllReadyH.nil
            refine step_store_blk rfl _ _ _ rfl (w_6.drew.heap.size) rfl _ _ #[Value.int .i64 s.rev, Value.slice q1 s.jobs.length d1, Value.slice q2 s.nodes.length d2, Value.slice p3 s.leases.length c3] z10 rfl state_size rfl (one_st4 _ _ _ _ _ _ _ _ _ _) ?_
            refine hK.out _ _ ?_ (fun hHeld => ?_)
            · exact below_setRow A10 (by have h1 := A0; have h2 := Below.size h1; simp at h2 ⊢; try omega) #[Value.int .i64 s.rev, Value.slice q1 s.jobs.length d1, Value.slice q2 s.nodes.length d2, Value.slice p3 s.leases.length c3]
            clear hK K
            (try simp only [Act.put, List.setIfInBounds_toArray, List.set_cons_zero, List.set_cons_succ, List.getElem_toArray, List.getElem_cons_zero, List.getElem_cons_succ])
            refine wpAnyH_done (by kernel_rfl) ?_ _
            go_wp2_with fail
            go_meet
            have hlt := z10.lt
            have hgt : w_6.heap.size ≤ w_6.drew.heap.size := by have h1 := A0; have h2 := Below.size h1; simp at h2 ⊢; try omega
            have oj := (((Own.of OJ9).less A8.size).below (B := 0) hb10)
            have on := ((Own.of ON10).less A9.size)
            exact ⟨w_6.drew.heap.size, q1, d1, q2, d2, rfl, z10.setRow _, oj.other (growR _ _ _) z10 (by decide), on.other (growR _ _ _) z10 (by decide), below_setRow A10 hgt _, hgt⟩
    case rest =>
      obtain ⟨gt, q1, d1, q2, d2, ht, bt, OJ, ON, hbt, hgt⟩ := hcut
      subst ht
      try dsimp only at bt OJ ON
      have hct := hbt.size
      have hbc := hbt
      skip
      obtain ⟨r1, hr1, HRM⟩ := rest_int mo 1000 (by decide) (by decide)
      have e2 : wc.cell? ⟨gt, 2, none⟩ = some (.slice q2 s.nodes.length d2) := bt.cell 2
      have lj2 : s.jobs.length ≤ 40 := lj
      go_upto_if 32 with (fail)
      go_cut [7] (fun t wx => Rooms2 w_6 s p3 c3 t wx)
      case first =>
        rcases Nat.eq_zero_or_pos s.nodes.length with hn0 | hn0
        · have hni : ¬ (0 : Int) < (s.nodes.length : Int) := by omega
          have hn1 := Lib.hid hn0
          clear hn0
          go_wp2_with fail
          go_meet
          exact ⟨s.nodes, HF.out, gt, q1, d1, q2, d2, rfl, bt, OJ, ON, hbc, hgt⟩
        · skip
          obtain ⟨i, hin, HRN⟩ := rest_nat n s.nodes.length hn0 (by omega)
          have hni : (0 : Int) < (s.nodes.length : Int) := by omega
          obtain ⟨x, hx⟩ : ∃ x, s.nodes[i]? = some x := ⟨_, List.getElem?_eq_getElem hin⟩
          obtain ⟨g2, cur, hq2, hbg, hgb, hcs, hcc⟩ := ON.where_ (by rw [List.length_map]; omega)
          subst hq2
          have hne2 : g2 ≠ gt := fun e => absurd e (hgb.ne_ bt (by decide))
          have HQ2 := Lib.hid (fun (X : World) (hX : Abv wc X) => (bt.below hX bt.lt).cell 2)
          have hiw : IntKind.i64.wrap (i : Int) = (i : Int) := IntWalk.i64_in _ (by omega)
          have hi0 : (0 : Int) ≤ (i : Int) := by omega
          have hi1 : (i : Int) < (s.nodes.length : Int) := by omega
          go_wp2_with fail
          refine wp_region_abv (by kernel_rfl) (by kernel_rfl) ?_
          repeat (first
            | (apply wpQuiet_do; (focus rfl); (focus (intro w5 hw5; have k1 : w5.cell? ⟨gt, 2, none⟩ = some (.slice (some ⟨g2, 0, none⟩) s.nodes.length d2) := HQ2.out w5 hw5; unfold Oper.quietAt; go_simp; first | rfl | exact ⟨rfl, rfl⟩ | (with_reducible refine (HRN.out w5).mono ?_; rintro e w8 ⟨rfl, rfl⟩; exact ⟨rfl, hw5⟩))); simp only [Act.put, List.setIfInBounds_toArray, List.set_cons_zero, List.set_cons_succ]))
          refine wpQuiet_nil ?_
          intro w9 hw9
          have hb9 : Below wc.heap.size wc w9 := hw9
          have bt9 := bt.below hb9 bt.lt
          have hgb9 := hgb.below hb9 hgb.lt
          have OJ9 := OJ.below (B := 0) hb9
          have ON9 := ON.below (B := 0) hb9
          have hbc9 := hbc.trans (hb9.mono hct)
          obtain ⟨y3, f3⟩ := ON9.cellAt (k := i) (j := 1) (r := rowN x) (v := .int .i64 x.room) (by rw [List.getElem?_map, hx]; rfl) rfl
          have hxe := nodeE_iff.1 (HF.out.n x (List.mem_of_getElem? hx))
          have hx0 : 0 ≤ x.room := hxe.2.1
          have hx1 : x.room ≤ 1000000 := hxe.2.2
          have hrw : IntKind.i64.wrap (x.room + r1) = x.room + r1 := IntWalk.i64_in _ (by omega)
          have y4 : w9.drew.cell? ⟨g2, i * 3 + 1, none⟩ = some (.int .i64 x.room) := y3
          have f4 : w9.drew.frozen? ⟨g2, i * 3 + 1, none⟩ = false := f3
          clear hw9 HQ2 e2
          go_wp2_with fail
          go_region_law (first | (go_simp; go_at_call 16; refine (HRM.out _).mono ?_; rintro e w' ⟨rfl, rfl⟩))
          all_goals
            go_wp2_with fail
            go_meet
            have hgr := grow_cell w9 g2 (i * 3 + 1) (.int .i64 (min 1000000 (x.room + r1)))
            have bt10 := bt9.far (p := ⟨g2, i * 3 + 1, none⟩) (show gt ≠ g2 from hne2.symm) (.int .i64 (min 1000000 (x.room + r1)))
            have o10 := ON9.cell_ i 1 (rowN x) (.int .i64 (min 1000000 (x.room + r1))) (by rw [List.getElem?_map, hx]; rfl) (by decide)
            rw [show (rowN x).set 1 (.int .i64 (min 1000000 (x.room + r1))) = rowN { x with room := min 1000000 (x.room + r1) } from rfl, ← List.map_set] at o10
            have p10 := OJ9.other hgr hgb9 (by decide)
            have c10 := hbc9.setCell (p := ⟨g2, i * 3 + 1, none⟩) (show w_6.heap.size ≤ g2 from hbg) (.int .i64 (min 1000000 (x.room + r1))) |>.drew
            have hF2 := HF.out.setN i x { x with room := min 1000000 (x.room + r1) } hx rfl (by show x.room ≤ min 1000000 (x.room + r1); omega) (nodeE_iff.2 ⟨hxe.1, by show 0 ≤ min 1000000 (x.room + r1); omega, by show min 1000000 (x.room + r1) ≤ 1000000; omega⟩)
            refine ⟨s.nodes.set i { x with room := min 1000000 (x.room + r1) }, hF2, gt, q1, d1, some ⟨g2, 0, none⟩, d2, rfl, ?_, p10, o10, c10, hgt⟩
            have hll : (s.nodes.set i { x with room := min 1000000 (x.room + r1) }).length = s.nodes.length := List.length_set
            dsimp only
            rw [hll]
            exact bt10
      case rest =>
        obtain ⟨ns, hF2, hcut⟩ := hcut
        have HF2 := Lib.hid hF2
        clear hF2
        obtain ⟨gt, q1, d1, q2, d2, ht, bt, OJ, ON, hbt, hgt⟩ := hcut
        subst ht
        try dsimp only at bt OJ ON
        have hct := hbt.size
        have hbc := hbt
        skip
        skip
        have e2 : wc.cell? ⟨gt, 1, none⟩ = some (.slice q1 s.jobs.length d1) := bt.cell 1
        have lj2 : s.jobs.length ≤ 40 := lj
        go_upto_if 54 with (fail)
        go_cut [7] (fun t wx => Rooms3 w_6 s p3 c3 t wx)
        case first =>
          rcases Nat.eq_zero_or_pos s.jobs.length with hn0 | hn0
          · have hni : ¬ (0 : Int) < (s.jobs.length : Int) := by omega
            have hn1 := Lib.hid hn0
            clear hn0
            go_wp2_with fail
            go_meet
            exact ⟨s.jobs, ns, HF2.out, gt, q1, d1, q2, d2, rfl, bt, OJ, ON, hbc, hgt⟩
          · skip
            obtain ⟨i, hin, HRN⟩ := rest_nat n s.jobs.length hn0 (by omega)
            have hni : (0 : Int) < (s.jobs.length : Int) := by omega
            obtain ⟨x, hx⟩ : ∃ x, s.jobs[i]? = some x := ⟨_, List.getElem?_eq_getElem hin⟩
            obtain ⟨g2, cur, hq2, hbg, hgb, hcs, hcc⟩ := OJ.where_ (by rw [List.length_map]; omega)
            subst hq2
            have hne2 : g2 ≠ gt := fun e => absurd e (hgb.ne_ bt (by decide))
            have HQ2 := Lib.hid (fun (X : World) (hX : Abv wc X) => (bt.below hX bt.lt).cell 1)
            have hiw : IntKind.i64.wrap (i : Int) = (i : Int) := IntWalk.i64_in _ (by omega)
            have hi0 : (0 : Int) ≤ (i : Int) := by omega
            have hi1 : (i : Int) < (s.jobs.length : Int) := by omega
            go_wp2_with fail
            refine wp_region_abv (by kernel_rfl) (by kernel_rfl) ?_
            repeat (first
              | (apply wpQuiet_do; (focus rfl); (focus (intro w5 hw5; have k1 : w5.cell? ⟨gt, 1, none⟩ = some (.slice (some ⟨g2, 0, none⟩) s.jobs.length d1) := HQ2.out w5 hw5; unfold Oper.quietAt; go_simp; first | rfl | exact ⟨rfl, rfl⟩ | (with_reducible refine (HRN.out w5).mono ?_; rintro e w8 ⟨rfl, rfl⟩; exact ⟨rfl, hw5⟩))); simp only [Act.put, List.setIfInBounds_toArray, List.set_cons_zero, List.set_cons_succ]))
            refine wpQuiet_nil ?_
            intro w9 hw9
            have hb9 : Below wc.heap.size wc w9 := hw9
            have bt9 := bt.below hb9 bt.lt
            have hgb9 := hgb.below hb9 hgb.lt
            have OJ9 := OJ.below (B := 0) hb9
            have ON9 := ON.below (B := 0) hb9
            have hbc9 := hbc.trans (hb9.mono hct)
            obtain ⟨y3, f3⟩ := OJ9.cellAt (k := i) (j := 2) (r := rowJ x) (v := .int .i64 x.need) (by rw [List.getElem?_map, hx]; rfl) rfl
            have hxe := jobE_iff.1 (HF2.out.j x (List.mem_of_getElem? hx))
            have hx0 : 0 ≤ x.need := hxe.2.2.1.1
            have hx1 : x.need ≤ 1000000 := hxe.2.2.1.2
            obtain ⟨r1, hr1, HRM⟩ := rest_int mo (x.need + 1) (by omega) (by omega)
            have hrw : IntKind.i64.wrap (x.need + 1) = x.need + 1 := IntWalk.i64_in _ (by omega)
            have hrw2 : IntKind.i64.wrap (x.need - r1) = x.need - r1 := IntWalk.i64_in _ (by omega)
            have y4 : w9.drew.cell? ⟨g2, i * 5 + 2, none⟩ = some (.int .i64 x.need) := y3
            have f4 : w9.drew.frozen? ⟨g2, i * 5 + 2, none⟩ = false := f3
            clear hw9 HQ2 e2
            go_wp2_with fail
            go_region_law (first | (go_simp; go_at_call 16; refine (HRM.out _).mono ?_; rintro e w' ⟨rfl, rfl⟩))
            all_goals
              go_wp2_with fail
              go_meet
              have hgr := grow_cell w9 g2 (i * 5 + 2) (.int .i64 (x.need - r1))
              have bt10 := bt9.far (p := ⟨g2, i * 5 + 2, none⟩) (show gt ≠ g2 from hne2.symm) (.int .i64 (x.need - r1))
              have o10 := OJ9.cell_ i 2 (rowJ x) (.int .i64 (x.need - r1)) (by rw [List.getElem?_map, hx]; rfl) (by decide)
              rw [show (rowJ x).set 2 (.int .i64 (x.need - r1)) = rowJ { x with need := x.need - r1 } from rfl, ← List.map_set] at o10
              have p10 := ON9.other hgr hgb9 (by decide)
              have c10 := hbc9.setCell (p := ⟨g2, i * 5 + 2, none⟩) (show w_6.heap.size ≤ g2 from hbg) (.int .i64 (x.need - r1)) |>.drew
              have hF2 := HF2.out.setJ i x { x with need := x.need - r1 } hx rfl (by show x.need - r1 ≤ x.need; omega) (jobE_iff.2 ⟨hxe.1, hxe.2.1, ⟨by show 0 ≤ x.need - r1; omega, by show x.need - r1 ≤ 1000000; omega⟩, hxe.2.2.2⟩)
              refine ⟨s.jobs.set i { x with need := x.need - r1 }, ns, hF2, gt, some ⟨g2, 0, none⟩, d1, q2, d2, rfl, ?_, o10, p10, c10, hgt⟩
              have hll : (s.jobs.set i { x with need := x.need - r1 }).length = s.jobs.length := List.length_set
              dsimp only
              rw [hll]
              exact bt10
        case rest =>
          obtain ⟨js, ns3, hF3, hcut⟩ := hcut
          obtain ⟨gt, q1, d1, q2, d2, ht, bt, OJ, ON, hbt, hgt⟩ := hcut
          subst ht
          try dsimp only at bt OJ ON
          have hct := hbt.size
          have hbc := hbt
          skip
          have hcw := c_9.trans (hbc.mono c_9.size)
          have hck := stCheck_any ⟨s.rev, js, ns3, s.leases⟩ q1 q2 p3 d1 d2 c3 wc ⟨OJ.elts, ON.elts, ((HM.out.l.below c_9).more c_9.size).below hbc |>.more hct⟩ hF3.sz (HT.out.below hcw)
          rw [(fine_iff _).2 hF3] at hck
          have HCK := Lib.hid hck
          clear hck
          go_wp2_with (first | (refine wpList_load_blk_w (by rfl) _ _ rfl (w.heap.size) rfl _ #[Value.int .i64 s.rev, Value.slice p1 s.jobs.length c1, Value.slice p2 s.nodes.length c2, Value.slice p3 s.leases.length c3] b_8 _ Tryd.underlying26 rfl state_size ?_) | (refine wpList_load_blk_w (by rfl) _ _ rfl (gt) rfl _ #[Value.int .i64 s.rev, Value.slice q1 js.length d1, Value.slice q2 ns3.length d2, Value.slice p3 s.leases.length c3] bt _ Tryd.underlying26 rfl state_size ?_))
          refine HCK.out.mono ?_
          rintro e w9 ⟨rfl, hb9⟩
          have hbz := hcw.trans (hb9.mono hcw.size)
          clear hb9
          have z0 : (((0 : Nat) : Int) == 0) = true := rfl
          go_wp2_with fail
          go_ret
          exact ⟨rfl, hbz⟩
  · have hne : ((checkE s : Int) != 0) = true := by rw [bne_iff_ne]; omega
    generalize checkE s = ce at *
    clear hc n1 n2 m1 m2
    go_enter Tryd.func5, Tryd.ntmps5
    go_wp2_with fail
    generalize w.alloc _ = W_1 at *
    refine (stated_any _ (HT.out.below hb0)).mono ?_
    rintro e w_2 ⟨rfl, hb_3⟩
    have b_4 := bx0.below hb_3 bx0.lt
    have c_5 := hb0.trans (hb_3.mono hb0.size)
    clear bx0 hb0 hb_3
    go_wp2_with (first | (refine wpList_load_blk_w (by rfl) _ _ rfl (w.heap.size) rfl _ #[Value.int .i64 s.rev, Value.slice p1 s.jobs.length c1, Value.slice p2 s.nodes.length c2, Value.slice p3 s.leases.length c3] b_4 _ Tryd.underlying26 rfl state_size ?_))
    refine (HC.out _ c_5).mono ?_
    rintro e w_6 ⟨rfl, hb_7⟩
    have b_8 := b_4.below hb_7 b_4.lt
    have c_9 := c_5.trans (hb_7.mono c_5.size)
    clear b_4 c_5 hb_7
    go_wp2_with (first | (refine wpList_load_blk_w (by rfl) _ _ rfl (w.heap.size) rfl _ #[Value.int .i64 s.rev, Value.slice p1 s.jobs.length c1, Value.slice p2 s.nodes.length c2, Value.slice p3 s.leases.length c3] b_8 _ Tryd.underlying26 rfl state_size ?_))
    go_ret
    exact ⟨rfl, c_9⟩

theorem own : ownKnob Tryd.prog.godebug = none := by kernel_rfl
theorem laid : laidOutB Tryd.prog = true := by kernel_rfl
set_option maxRecDepth 100000 in
theorem contract (H : Type) (enc : TypeId × Value → H) (W : World) (base : Nat) (args : Array Value) (ds gs : List (DataW H)) (before : List MemPlace)
    (hval0 : ∀ (j : Nat) t v, Tryd.f5.params[j]? = some t → args[j]? = some v → Value.okWide Tryd.prog W .any base t v)
    (hW : DataW.Whole enc Tryd.prog Tryd.f5.params.toList Rows.stateRoomsSpec.vars false W args.toList ds gs before)
    (hsz0 : (DataW.weightsEach Tryd.prog (Tryd.f5.params.toList ++ Rows.stateRoomsSpec.plain.varTypes Tryd.prog) (ds ++ gs)).all (· ≤ reachBytes) = true)
    (hT : Tabs W) :
    Calls Tryd.prog 5 args W fun e W' => ∃ v, e = .returned v ∧ Rows.stateRoomsSpec.post enc Tryd.prog Tryd.f5 false true false false W args v W' := by
  have hval : ∀ (j : Nat) t v, Tryd.f5.params[j]? = some t → args[j]? = some v → Value.okWide Tryd.prog W .any base t v := hval0
  have hsz : (DataW.weightsEach Tryd.prog (Tryd.f5.params.toList ++ Rows.stateRoomsSpec.plain.varTypes Tryd.prog) (ds ++ gs)).all (· ≤ reachBytes) = true := hsz0
  have hlt : ∀ x ∈ before, x.block < W.heap.size := fun x hx => hW.lt x hx
  have hW' := hW
  obtain ⟨p, q, hA0, hV, rfl, hfz, hnd⟩ := hW
  have hA : DataW.TrodAll enc Tryd.prog W 0 (fun _ => true) true Tryd.f5.params.toList args.toList ds p := hA0
  rw [Tryd.params5] at hA hval hsz
  obtain ⟨v0, vs0, d0, ds0, p0, q0, hargs, rfl, rfl, h0, r0⟩ := trodAll_cons hA
  obtain ⟨v1, vs1, d1, ds1, p1, q1, rfl, rfl, rfl, h1, r1⟩ := trodAll_cons r0
  obtain ⟨v2, vs2, d2, ds2, p2, q2, rfl, rfl, rfl, h2, r2⟩ := trodAll_cons r1
  obtain ⟨rfl, rfl, rfl⟩ := trodAll_nil r2
  obtain rfl : args = #[v0, v1, v2] := by cases args; simp_all
  obtain ⟨rfl, rfl⟩ := trodVars_none hV
  obtain ⟨s0, pj0, pn0, pl0, cj0, cn0, cl0, rfl, hm0, hk0⟩ := open_state (hval 0 26 v0 rfl rfl) h0 hsz (j := 0) rfl rfl
  obtain ⟨a1, rfl, rfl, rfl, w1⟩ := open_int Tryd.underlying3 (hval 1 3 v1 rfl rfl) h1
  have b1 := bounds_i64 w1
  obtain ⟨a2, rfl, rfl, rfl, w2⟩ := open_int Tryd.underlying3 (hval 2 3 v2 rfl rfl) h2
  have b2 := bounds_i64 w2
  refine (walk s0 pj0 pn0 pl0 cj0 cn0 cl0 W hm0 hk0 a1 b1.1 b1.2 a2 b2.1 b2.2 hT).mono fun e W' ⟨he, hb⟩ => ?_
  subst he
  exact ⟨_, rfl, law_post laid (by kernel_rfl) Tryd.underlying4 rfl rfl hW' rfl rfl rfl rfl hb⟩

theorem reads (os : Os) {H : Type} (enc : TypeId × Value → H) : ∃ places, DataW.whole enc Tryd.prog ((laidWorld os).forCall (fun _ _ => 0) ⟨#[], #[.agg #[.int .i64 0, .slice none 0 0, .slice none 0 0, .slice none 0 0], .int .i64 0, .int .i64 0], []⟩).memory Tryd.f5.params.toList Rows.stateRoomsSpec.vars false (#[.agg #[.int .i64 0, .slice none 0 0, .slice none 0 0, .slice none 0 0], .int .i64 0, .int .i64 0] : Array Value).toList 8 = some ([.agg [.lit (.int .i64 0), .nil, .nil, .nil], .lit (.int .i64 0), .lit (.int .i64 0)], [], places) :=
  ⟨[], by kernel_rfl⟩
set_option maxRecDepth 100000 in
theorem lifted (os : Os) (started : os.Started) (H : Type) (enc : TypeId × Value → H) (F : Stop.Interp) :
    ReturnsInHanded {} Tryd.checked os 5 .any ((OpenSpec.ofChange Rows.stateRoomsSpec).preRow enc Tryd.prog Tryd.f5 Rows.stateRoomsRow.domain false Rows.stateRoomsRow.laid) (((OpenSpec.ofChange Rows.stateRoomsSpec).at F).post enc Tryd.prog Tryd.f5 false true false false) := by
  obtain ⟨places, hx⟩ := reads os enc
  refine returnsInHanded_of_row (C := Tryd.checked) (s := (OpenSpec.ofChange Rows.stateRoomsSpec)) own started (by kernel_rfl) Tryd.func5
    (witness_row_atRef (enc := enc) (C := Tryd.checked) false (laidWorld os) #[.agg #[.int .i64 0, .slice none 0 0, .slice none 0 0, .slice none 0 0], .int .i64 0, .int .i64 0] rfl (by kernel_rfl) (by kernel_rfl) (by kernel_rfl)
      (OpenSpec.preRow_of_cond 8 hx (by kernel_rfl) (fun k hk => by cases hk) (by kernel_rfl) (laid_met os _))) ?_
  intro W base args ds gs before hval0 hW _ hcond hsz0 hL _ _
  exact contract H enc W base args ds gs before hval0 hW hsz0 (tabs_of_laid hL)

theorem said : Rows.StateRoomsSaid :=
  OpenClaim.holds_of_cond 5 Tryd.f5 rfl rfl rfl rfl rfl rfl rfl ⟨rfl, rfl, rfl, rfl, rfl⟩ rfl rfl rfl rfl rfl (by kernel_rfl) Tryd.func5 (by kernel_rfl)
    (of_decide_eq_true (by kernel_rfl)) (by unfold Func.isWrapper; first | (rw [if_pos (by decide +kernel)]; kernel_rfl) | (rw [if_neg (by decide +kernel)]; exact ⟨rfl, rfl⟩))
    (fun os started H enc _ F => by rw [OpenClaim.pre_eq_preRow]; exact lifted os started H enc F)

/-- No parameter wants a stand-in; the program's own looks are off. -/
theorem plain (f : FuncId) (fn : Func) (hf : Tryd.pinned.checked.prog.funcNamed "bracken/brackenkeep.StateRooms" = some f) (hfn : Tryd.pinned.checked.prog.funcs[f]? = some fn) :
    false = Tryd.pinned.checked.prog.looks [] ∧ ∀ (j : Nat) t, fn.params[j]? = some t → Tryd.pinned.checked.prog.wantsStandIn t = false := by
  obtain rfl : f = 5 := Option.some.inj ((show Tryd.prog.funcNamed "bracken/brackenkeep.StateRooms" = some 5 by kernel_rfl).symm.trans hf) |>.symm
  obtain rfl : fn = Tryd.f5 := (Option.some.inj (Tryd.func5.symm.trans hfn)).symm
  refine ⟨by kernel_rfl, fun j t ht => ?_⟩
  rw [Tryd.params5] at ht
  have hm := Array.mem_of_getElem? ht
  have hall : (#[26, 3, 3] : Array TypeId).all (fun t => !Tryd.prog.wantsStandIn t) = true := by kernel_rfl
  have := Array.all_eq_true_iff_forall_mem.1 hall t (by simpa using hm)
  show Tryd.prog.wantsStandIn t = false
  simpa using this

/-- The statement. -/
theorem proved : Rows.StateRoomsCardSaid :=
  Claim7.holds_tied_plain_at .later [] _ _ _ _ said (fun _ h => by cases h) (by kernel_rfl) (fun _ h => by cases h) stateRooms_row_tie rfl ⟨rfl, rfl⟩ (by kernel_rfl) rfl plain (by kernel_rfl)
#print axioms proved
end Go.Proofs.YtnmokjgnbcfabaaDoor.stateRooms
