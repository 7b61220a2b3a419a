/-
  The law StateMore of package brackenkeep: for every input it answers true.
-/
import Derived.Test.YtnmokjgnbcfabaaDoorRows
import Derived.Test.YtnmokjgnbcfabaaDoorPkBase
import Derived.Test.YtnmokjgnbcfabaaDoorPkUtfN
import Derived.Test.YtnmokjgnbcfabaaDoorPkElts
import Derived.Test.YtnmokjgnbcfabaaDoorPkSums
import Derived.Test.YtnmokjgnbcfabaaDoorPkFineSz
import Derived.Test.YtnmokjgnbcfabaaDoorPkAt
import Derived.Test.YtnmokjgnbcfabaaDoorPkUsed
import Derived.Test.YtnmokjgnbcfabaaDoorPkStateB
import Derived.Test.YtnmokjgnbcfabaaDoorPkOwnD
import Derived.Test.YtnmokjgnbcfabaaDoorPkHeld
import Derived.Deep.RegionLaw
import Derived.IntWalk
set_option linter.unusedVariables false
set_option linter.unusedSimpArgs false
namespace Go.Proofs.YtnmokjgnbcfabaaDoor.stateMore
open Go.ChangeShapes Go.WideShapes Go.ChangeAt Go.RowKit Go.Joins
open Go.ChangeMaps (open_string)
theorem below_drewN (w : World) : ∀ k, Below w.heap.size w (w.drewN k) := fun k => by
  first | exact (Below.refl _ _).drewN k | exact Below.drewN _ _ | (induction k with
    | zero => exact Below.refl _ _
    | succ k ih => exact ih.drew)
def tstM (s : St) (n : NodeD) (k : Nat) : Bool := match s.nodes[k]? with | none => false | some x => ltS x.name n.name
theorem tstM_ge {s : St} {n : NodeD} {k : Nat} (h : ¬ k < s.nodes.length) : tstM s n k = false := by unfold tstM; rw [List.getElem?_eq_none (by omega)]
theorem tstM_at {s : St} {n : NodeD} {k : Nat} {x : NodeD} (h : s.nodes[k]? = some x) : tstM s n k = ltS x.name n.name := by unfold tstM; rw [h]
theorem more_after {s : St} {n : NodeD} {k : Nat} (hF : Fine s) (hix : ixBy NodeD.name s.nodes n.name 0 < 0) (ht : tstM s n k = false) : ∀ x ∈ s.nodes.drop k, ltS n.name x.name = true := by
  intro x hx
  cases hy : s.nodes[k]? with
  | none => rw [List.drop_eq_nil_of_le (List.getElem?_eq_none_iff.1 hy)] at hx; cases hx
  | some y =>
    rw [tstM_at hy] at ht
    have hne := (ixBy_lt NodeD.name s.nodes n.name).1 hix y (List.mem_of_getElem? hy)
    have hny : ltS n.name y.name = true := by
      rcases ltS_total y.name n.name with h | h | h
      · rw [h] at ht; cases ht
      · exact absurd h hne
      · exact h
    obtain ⟨hk, hyk⟩ := List.getElem?_eq_some_iff.1 hy
    have hs : (s.nodes.drop k).Pairwise (fun a b => ltS a.name b.name = true) := List.Pairwise.sublist (List.drop_sublist k _) hF.sn
    rw [List.drop_eq_getElem_cons hk, hyk] at hs hx
    rcases List.mem_cons.1 hx with rfl | hx
    · exact hny
    · exact ltS_trans hny (List.rel_of_pairwise_cons hs hx)
set_option maxHeartbeats 8000000 in
set_option maxRecDepth 100000 in
theorem walk (s : St) (p1 p2 p3 : Option Addr) (c1 c2 c3 : Nat) (w : World) (hm : StM w w.heap.size p1 p2 p3 s) (hk : StOk s) (hcap : (s.jobs.length ≤ c1 ∧ s.nodes.length ≤ c2 ∧ s.leases.length ≤ c3) ∧ c1 ≤ maxLen ∧ c2 ≤ maxLen ∧ c3 ≤ maxLen) (n : NodeD) (n1 : n.name.size ≤ 140737488351232) (n2 : n.zone.size ≤ 140737488351232) (hT : Tabs w) :
    Calls Tryd.prog 4 #[.agg #[.int .i64 s.rev, .slice p1 s.jobs.length c1, .slice p2 s.nodes.length c2, .slice p3 s.leases.length c3], .agg #[.string n.name, .int .i64 n.room, .string n.zone]] w fun e w' => e = .returned (.bool true) ∧ Below w.heap.size w w' := by
  have hb0 : Below w.heap.size w (w.alloc (.cells #[Value.int .i64 s.rev, Value.slice p1 s.jobs.length c1, Value.slice p2 s.nodes.length c2, Value.slice p3 s.leases.length c3] 26)) := (Below.refl _ _).alloc (Nat.le_refl _) _
  have hb1 := hb0.alloc hb0.size (.cells #[Value.string n.name, Value.int .i64 n.room, Value.string n.zone] 35)
  have bx0 := (Blk.new w 26 #[Value.int .i64 s.rev, Value.slice p1 s.jobs.length c1, Value.slice p2 s.nodes.length c2, Value.slice p3 s.leases.length c3]).alloc (.cells #[Value.string n.name, Value.int .i64 n.room, Value.string n.zone] 35)
  have by0 : Blk ((w.alloc (.cells #[Value.int .i64 s.rev, Value.slice p1 s.jobs.length c1, Value.slice p2 s.nodes.length c2, Value.slice p3 s.leases.length c3] 26)).alloc (.cells #[Value.string n.name, Value.int .i64 n.room, Value.string n.zone] 35)) (w.heap.size + 1) 35 #[Value.string n.name, Value.int .i64 n.room, Value.string n.zone] := by have := Blk.new (w.alloc (.cells #[Value.int .i64 s.rev, Value.slice p1 s.jobs.length c1, Value.slice p2 s.nodes.length c2, Value.slice p3 s.leases.length c3] 26)) 35 #[Value.string n.name, Value.int .i64 n.room, Value.string n.zone]; simpa using this
  clear hb0
  have hz := hk.sz
  have hln := hk.ln
  have HM := Lib.hid hm
  have HZ := Lib.hid hz
  have HT := Lib.hid hT
  have hzs := zero_state_lit
  have HC := Lib.hid (fun (W : World) (hW : Below w.heap.size w W) => stCheck_any s p1 p2 p3 c1 c2 c3 W ((hm.below hW).more hW.size) hz (hT.below hW))
  have HA := Lib.hid (fun (W : World) (hW : Below w.heap.size w W) => atN_any p2 c2 s.nodes n.name W ((hm.n.below hW).more hW.size) (by omega))
  have HN := Lib.hid (fun (W : World) => checkR_any n W (by omega) (by omega))
  clear hm hk hz hT n1 n2
  by_cases hc : checkE s = 0
  · have hF := (fine_iff s).1 hc
    have lj : s.jobs.length ≤ 40 := hF.nj
    have ln : s.nodes.length ≤ 20 := hF.nn
    have ll : s.leases.length ≤ 40 := hF.nl
    have HF := Lib.hid hF
    have hck := HC.out
    rw [hc] at hck
    have HC0 := Lib.hid hck
    clear hF hc hck HC
    obtain ⟨ix, hix⟩ : ∃ ix, ixBy NodeD.name s.nodes n.name 0 = ix := ⟨_, rfl⟩
    have HIX := Lib.hid hix
    rw [hix] at HA
    obtain ⟨ne, hnE⟩ : ∃ ne, nodeE n = ne := ⟨_, rfl⟩
    have HNE := Lib.hid hnE
    rw [hnE] at HN
    clear hix hnE
    by_cases h19 : s.nodes.length ≤ 19
    · have h20 : ¬ (19 : Int) < (s.nodes.length : Int) := by omega
      have d19 : decide ((19 : Int) < (s.nodes.length : Int)) = false := decide_eq_false h20
      by_cases hi0 : 0 ≤ ix
      · go_enter Tryd.func4, Tryd.ntmps4
        go_wp2_with fail
        generalize (w.alloc (.cells #[Value.int .i64 s.rev, Value.slice p1 s.jobs.length c1, Value.slice p2 s.nodes.length c2, Value.slice p3 s.leases.length c3] 26)).alloc (.cells #[Value.string n.name, Value.int .i64 n.room, Value.string n.zone] 35) = W0 at *
        refine (stated_any _ (HT.out.below hb1)).mono ?_
        rintro e w_1 ⟨rfl, hb_2⟩
        have b_3 := bx0.below hb_2 bx0.lt
        have b_4 := by0.below hb_2 by0.lt
        have c_5 := hb1.trans (hb_2.mono hb1.size)
        clear bx0 by0 hb1 hb_2
        go_wp2_with (first | (refine wpList_load_blk_w (by rfl) _ _ rfl (w.heap.size) rfl _ #[Value.int .i64 s.rev, Value.slice p1 s.jobs.length c1, Value.slice p2 s.nodes.length c2, Value.slice p3 s.leases.length c3] b_3 _ Tryd.underlying26 rfl state_size ?_) | (refine wpList_load_blk_w (by rfl) _ _ rfl (w.heap.size + 1) rfl _ #[Value.string n.name, Value.int .i64 n.room, Value.string n.zone] b_4 _ Tryd.underlying35 rfl node_size ?_))
        refine (HC0.out _ c_5).mono ?_
        rintro e w_6 ⟨rfl, hb_7⟩
        have b_8 := b_3.below hb_7 b_3.lt
        have b_9 := b_4.below hb_7 b_4.lt
        have c_10 := c_5.trans (hb_7.mono c_5.size)
        clear b_3 b_4 c_5 hb_7
        have z0 : (((0 : Nat) : Int) != 0) = false := rfl
        have e2 : w_6.cell? ⟨w.heap.size, 2, none⟩ = some (.slice p2 s.nodes.length c2) := b_8.cell 2
        have en : w_6.cell? ⟨w.heap.size + 1, 0, none⟩ = some (.string n.name) := b_9.cell 0
        go_wp2_with (first | (refine wpList_load_blk_w (by rfl) _ _ rfl (w.heap.size) rfl _ #[Value.int .i64 s.rev, Value.slice p1 s.jobs.length c1, Value.slice p2 s.nodes.length c2, Value.slice p3 s.leases.length c3] b_8 _ Tryd.underlying26 rfl state_size ?_) | (refine wpList_load_blk_w (by rfl) _ _ rfl (w.heap.size + 1) rfl _ #[Value.string n.name, Value.int .i64 n.room, Value.string n.zone] b_9 _ Tryd.underlying35 rfl node_size ?_))
        refine (HA.out _ c_10).mono ?_
        rintro e w_11 ⟨rfl, hb_12⟩
        have b_13 := b_8.below hb_12 b_8.lt
        have b_14 := b_9.below hb_12 b_9.lt
        have c_15 := c_10.trans (hb_12.mono c_10.size)
        clear b_8 b_9 c_10 hb_12
        clear e2 en
        go_wp2_with (first | (refine wpList_load_blk_w (by rfl) _ _ rfl (w.heap.size) rfl _ #[Value.int .i64 s.rev, Value.slice p1 s.jobs.length c1, Value.slice p2 s.nodes.length c2, Value.slice p3 s.leases.length c3] b_13 _ Tryd.underlying26 rfl state_size ?_) | (refine wpList_load_blk_w (by rfl) _ _ rfl (w.heap.size + 1) rfl _ #[Value.string n.name, Value.int .i64 n.room, Value.string n.zone] b_14 _ Tryd.underlying35 rfl node_size ?_))
        go_ret
        exact ⟨rfl, c_15⟩
      · have hi1 : ix < 0 := by omega
        have dix : decide (0 ≤ ix) = false := decide_eq_false hi0
        by_cases hn0 : ne = 0
        · subst hn0
          go_enter Tryd.func4, Tryd.ntmps4
          go_wp2_with fail
          generalize (w.alloc (.cells #[Value.int .i64 s.rev, Value.slice p1 s.jobs.length c1, Value.slice p2 s.nodes.length c2, Value.slice p3 s.leases.length c3] 26)).alloc (.cells #[Value.string n.name, Value.int .i64 n.room, Value.string n.zone] 35) = W0 at *
          refine (stated_any _ (HT.out.below hb1)).mono ?_
          rintro e w_1 ⟨rfl, hb_2⟩
          have b_3 := bx0.below hb_2 bx0.lt
          have b_4 := by0.below hb_2 by0.lt
          have c_5 := hb1.trans (hb_2.mono hb1.size)
          clear bx0 by0 hb1 hb_2
          go_wp2_with (first | (refine wpList_load_blk_w (by rfl) _ _ rfl (w.heap.size) rfl _ #[Value.int .i64 s.rev, Value.slice p1 s.jobs.length c1, Value.slice p2 s.nodes.length c2, Value.slice p3 s.leases.length c3] b_3 _ Tryd.underlying26 rfl state_size ?_) | (refine wpList_load_blk_w (by rfl) _ _ rfl (w.heap.size + 1) rfl _ #[Value.string n.name, Value.int .i64 n.room, Value.string n.zone] b_4 _ Tryd.underlying35 rfl node_size ?_))
          refine (HC0.out _ c_5).mono ?_
          rintro e w_6 ⟨rfl, hb_7⟩
          have b_8 := b_3.below hb_7 b_3.lt
          have b_9 := b_4.below hb_7 b_4.lt
          have c_10 := c_5.trans (hb_7.mono c_5.size)
          clear b_3 b_4 c_5 hb_7
          have z0 : (((0 : Nat) : Int) != 0) = false := rfl
          have e2 : w_6.cell? ⟨w.heap.size, 2, none⟩ = some (.slice p2 s.nodes.length c2) := b_8.cell 2
          have en : w_6.cell? ⟨w.heap.size + 1, 0, none⟩ = some (.string n.name) := b_9.cell 0
          go_wp2_with (first | (refine wpList_load_blk_w (by rfl) _ _ rfl (w.heap.size) rfl _ #[Value.int .i64 s.rev, Value.slice p1 s.jobs.length c1, Value.slice p2 s.nodes.length c2, Value.slice p3 s.leases.length c3] b_8 _ Tryd.underlying26 rfl state_size ?_) | (refine wpList_load_blk_w (by rfl) _ _ rfl (w.heap.size + 1) rfl _ #[Value.string n.name, Value.int .i64 n.room, Value.string n.zone] b_9 _ Tryd.underlying35 rfl node_size ?_))
          refine (HA.out _ c_10).mono ?_
          rintro e w_11 ⟨rfl, hb_12⟩
          have b_13 := b_8.below hb_12 b_8.lt
          have b_14 := b_9.below hb_12 b_9.lt
          have c_15 := c_10.trans (hb_12.mono c_10.size)
          clear b_8 b_9 c_10 hb_12
          clear e2 en
          go_wp2_with (first | (refine wpList_load_blk_w (by rfl) _ _ rfl (w.heap.size) rfl _ #[Value.int .i64 s.rev, Value.slice p1 s.jobs.length c1, Value.slice p2 s.nodes.length c2, Value.slice p3 s.leases.length c3] b_13 _ Tryd.underlying26 rfl state_size ?_) | (refine wpList_load_blk_w (by rfl) _ _ rfl (w.heap.size + 1) rfl _ #[Value.string n.name, Value.int .i64 n.room, Value.string n.zone] b_14 _ Tryd.underlying35 rfl node_size ?_))
          refine (HN.out _).mono ?_
          rintro e w_16 ⟨rfl, hb_17⟩
          have b_18 := b_13.below hb_17 b_13.lt
          have b_19 := b_14.below hb_17 b_14.lt
          have c_20 := c_15.trans (hb_17.mono c_15.size)
          clear b_13 b_14 c_15 hb_17
          go_wp2_with (first | (refine wpList_load_blk_w (by rfl) _ _ rfl (w.heap.size) rfl _ #[Value.int .i64 s.rev, Value.slice p1 s.jobs.length c1, Value.slice p2 s.nodes.length c2, Value.slice p3 s.leases.length c3] b_18 _ Tryd.underlying26 rfl state_size ?_) | (refine wpList_load_blk_w (by rfl) _ _ rfl (w.heap.size + 1) rfl _ #[Value.string n.name, Value.int .i64 n.room, Value.string n.zone] b_19 _ Tryd.underlying35 rfl node_size ?_))
          go_loopw [6] (fun kx wx => ∃ k : Nat, k ≤ s.nodes.length ∧ kx = .int .i64 k ∧ Below w_16.heap.size w_16 wx ∧ Hid (∀ x ∈ s.nodes.take k, ltS x.name n.name = true)) (fun kx _ => s.nodes.length - (intOf kx).toNat)
          case atStart => exact ⟨0, Nat.zero_le _, rfl, Below.refl _ _, Lib.hid (fun x hx => by simp at hx)⟩
          case round =>
            obtain ⟨k, hk, rfl, hbr, HR⟩ := hrel
            have bs := b_18.below hbr b_18.lt
            have bn := b_19.below hbr b_19.lt
            have hcr := c_20.trans (hbr.mono c_20.size)
            have hbs := hbr.size
            go_upto_region 7 with (fail)
            go_cut [46] (fun b wx => b = .bool (tstM s n k) ∧ Below wr.heap.size wr wx)
            case first =>
              by_cases hkl : k < s.nodes.length
              · have hkl1 : (k : Int) < (s.nodes.length : Int) := by omega
                have hk0 : (0 : Int) ≤ (k : Int) := by omega
                obtain ⟨x, hx⟩ : ∃ x, s.nodes[k]? = some x := ⟨_, List.getElem?_eq_getElem hkl⟩
                obtain ⟨ja, hja, hjb, _, hjat⟩ := ((HM.out.n.below hcr).more hcr.size).at_ (k := k) (r := rowN x) (by rw [List.getElem?_map, hx]; rfl)
                subst hja
                have htst := tstM_at (n := n) hx
                have HTS := Lib.hid htst
                have hcs : ∀ X, Abv wr X → X.cell? ⟨w.heap.size, 2, none⟩ = some (.slice (some ja) s.nodes.length c2) ∧ X.cell? ⟨w.heap.size + 1, 0, none⟩ = some (.string n.name) ∧ X.cell? (ja.add (k * 3)) = some (.string x.name) := fun X hX => ⟨(bs.below hX bs.lt).cell 2, (bn.below hX bn.lt).cell 0, by have := (At.below hjat hX (by rw [block_of_add]; exact hjb)) 0 (.string x.name) rfl; rwa [show (ja.add (k * 3)).add 0 = ja.add (k * 3) from by unfold Addr.add; simp] at this⟩
                have HQ := Lib.hid hcs
                clear hcs htst hjat hx
                have k1 : wr.cell? ⟨w.heap.size, 2, none⟩ = some (.slice (some ja) s.nodes.length c2) := bs.cell 2
                have k3 : wr.cell? ⟨w.heap.size + 1, 0, none⟩ = some (.string n.name) := bn.cell 0
                have k5 := (HQ.out wr (Below.refl _ _)).2.2
                clear HQ
                go_big_quiet (fail)
                go_wp2_with fail
                go_meet
                exact ⟨by rw [HTS.out]; rfl, below_drewN _ _⟩
              · have hkl1 : ¬ (k : Int) < (s.nodes.length : Int) := by omega
                have htst := tstM_ge (n := n) hkl
                have HTS := Lib.hid htst
                have hcs : ∀ X, Abv wr X → X.cell? ⟨w.heap.size, 2, none⟩ = some (.slice p2 s.nodes.length c2) := fun X hX => (bs.below hX bs.lt).cell 2
                have HQ := Lib.hid hcs
                clear hcs htst
                have k1 : wr.cell? ⟨w.heap.size, 2, none⟩ = some (.slice p2 s.nodes.length c2) := bs.cell 2
                clear HQ
                go_big_quiet (fail)
                go_wp2_with fail
                go_meet
                exact ⟨by rw [HTS.out], below_drewN _ _⟩
            case rest =>
              obtain ⟨rfl, hwc⟩ := hcut
              cases htt : tstM s n k
              · have HTT := Lib.hid htt
                clear htt
                go_upto_region 9 with (fail)
                obtain ⟨w8, rfl⟩ : ∃ w8 : World, w8 = wc := ⟨_, rfl⟩
                have hcw := hcr.trans (hwc.mono hcr.size)
                have bsc := bs.below hwc bs.lt
                have bnc := bn.below hwc bn.lt
                have hkc : (k : Int) ≤ (c2 : Int) := by have := hcap.1.2.1; omega
                have hkl : (k : Int) ≤ (s.nodes.length : Int) := by omega
                go_cut [5] (fun l wx => ∃ q d L, l = .slice q L.length d ∧ Own wx w8.heap.size 35 3 q d (L.map rowN) ∧ Hid (L = s.nodes.take k ++ n :: s.nodes.drop k) ∧ Below w8.heap.size w8 wx)
                case first =>
                  clear HC0 HA HN
                  have k2 : w8.drew.cell? ⟨w.heap.size, 2, none⟩ = some (.slice p2 s.nodes.length c2) := bsc.cell 2
                  have k4 : (w8.alloc (.cells #[Value.string n.name, Value.int .i64 n.room, Value.string n.zone] 35)).cell? ⟨w.heap.size, 2, none⟩ = some (.slice p2 s.nodes.length c2) := (bsc.alloc _).cell 2
                  have j0 : w8.drew.cell? ⟨w.heap.size + 1, 0, none⟩ = some (.string n.name) := bnc.cell 0
                  have j1 : w8.drew.cell? ⟨w.heap.size + 1, 1, none⟩ = some (.int .i64 n.room) := bnc.cell 1
                  have j2 : w8.drew.cell? ⟨w.heap.size + 1, 2, none⟩ = some (.string n.zone) := bnc.cell 2
                  obtain ⟨i0, hi, hz0, hz1, hz2⟩ := info_parts node_infoC
                  have HRA := ((((HM.out.n.below hcw).more hcw.size).take_ k).reads)
                  rw [List.length_take, List.length_map, Nat.min_eq_left hk, ← List.map_take] at HRA
                  have h1A := rowsN_one (s.nodes.take k)
                  have h1D := rowsN_one (s.nodes.drop k)
                  have HRD : Hid (∀ W : World, Below w8.heap.size w8 W → Reads W w8.heap.size 3 (if c2 = k then p2 else Option.map (fun x => x.add (k * 3)) p2) (s.nodes.length - k) ((s.nodes.drop k).map rowN).flatten) := fun W hW => by have := ((((HM.out.n.below hcw).more hcw.size).below hW).dropIf (c := c2) (k := k) (by rw [List.length_map]; exact hcap.1.2.1)).reads; rwa [List.length_drop, List.length_map, ← List.map_drop] at this
                  go_region_law (first | (refine step_append_any _ rfl _ _ 23 rfl w8.heap.size 35 i0 _ 3 40 Tryd.underlying23 hi hz0 hz1 hz2 rfl (by decide) _ 0 [] rfl (World.ownsRow_nil _ _ _ _) w8.heap.size p2 k c2 _ rfl (show Reads w8.drew _ _ _ _ _ from HRA) h1A (by unfold maxLen; omega) (by omega) (Nat.le_refl w8.heap.size) ?_; intro v1 w1 o1 g1 b1; have hb1 : Below w8.heap.size w8 w1 := ((Below.refl w8.heap.size w8).drew).grown g1 (Nat.le_refl _) (fun k hk => by cases hk); have q2 : w1.cell? ⟨w.heap.size, 2, none⟩ = some (.slice p2 s.nodes.length c2) := (bsc.below hb1 bsc.lt).cell 2; have m0 : w1.cell? ⟨w.heap.size + 1, 0, none⟩ = some (.string n.name) := (bnc.below hb1 bnc.lt).cell 0; have m1 : w1.cell? ⟨w.heap.size + 1, 1, none⟩ = some (.int .i64 n.room) := (bnc.below hb1 bnc.lt).cell 1; have m2 : w1.cell? ⟨w.heap.size + 1, 2, none⟩ = some (.string n.zone) := (bnc.below hb1 bnc.lt).cell 2; have q4 : (w1.alloc (.cells #[Value.string n.name, Value.int .i64 n.room, Value.string n.zone] 35)).cell? ⟨w.heap.size, 2, none⟩ = some (.slice p2 s.nodes.length c2) := ((bsc.below hb1 bsc.lt).alloc _).cell 2) | (refine step_append_any _ rfl _ _ 23 rfl w8.heap.size 35 i0 _ 3 40 Tryd.underlying23 hi hz0 hz1 hz2 rfl (by decide) _ 0 [] rfl (World.ownsRow_nil _ _ _ _) w8.heap.size p2 k c2 _ rfl (HRA.alloc (Nat.le_refl _) _) h1A (by unfold maxLen; omega) (by omega) (by simp) ?_; intro v1 w1 o1 g1 b1; have hb1 : Below w8.heap.size w8 w1 := (((Below.refl w8.heap.size w8).drew).alloc (Nat.le_refl w8.heap.size) _).grown g1 (by simp) (fun k hk => by cases hk); have q2 : w1.cell? ⟨w.heap.size, 2, none⟩ = some (.slice p2 s.nodes.length c2) := (bsc.below hb1 bsc.lt).cell 2; have bb1 : Blk w1 w8.heap.size 35 #[Value.string n.name, Value.int .i64 n.room, Value.string n.zone] := (Blk.new w8.drew 35 #[Value.string n.name, Value.int .i64 n.room, Value.string n.zone]).below ((Below.refl _ (w8.drew.alloc (.cells #[Value.string n.name, Value.int .i64 n.room, Value.string n.zone] 35))).grown g1 (Nat.le_refl _) (fun k hk => by cases hk)) (Blk.new w8.drew 35 #[Value.string n.name, Value.int .i64 n.room, Value.string n.zone]).lt) | (refine step_append_any _ rfl _ _ 23 rfl w8.heap.size 35 i0 _ 3 40 Tryd.underlying23 hi hz0 hz1 hz2 rfl (by decide) _ (0 + k) _ rfl o1 _ (some ⟨w8.heap.size, 0, none⟩) 1 1 (rowN n) rfl (Blk.reads1 bb1 rfl) (by intro u hu; simp [rowN] at hu; rcases hu with rfl | rfl | rfl <;> rfl) (by unfold maxLen; omega) (by omega) hb1.size ?_; intro v2 w2 o2 g2 b2; have hb2 : Below w8.heap.size w8 w2 := hb1.grown g2 hb1.size (fun k hk => (World.ownsRow.lt o1 k hk).1); have q3 : w2.cell? ⟨w.heap.size, 2, none⟩ = some (.slice p2 s.nodes.length c2) := (bsc.below hb2 bsc.lt).cell 2) | (refine step_append_any _ rfl _ _ 23 rfl w8.heap.size 35 i0 _ 3 40 Tryd.underlying23 hi hz0 hz1 hz2 rfl (by decide) _ (0 + k) _ rfl (World.ownsRow.alloc o1 _) _ (some ⟨w1.heap.size, 0, none⟩) 1 1 (rowN n) rfl (Blk.reads1 (Blk.new w1 35 #[Value.string n.name, Value.int .i64 n.room, Value.string n.zone]) rfl) (by intro u hu; simp [rowN] at hu; rcases hu with rfl | rfl | rfl <;> rfl) (by unfold maxLen; omega) (by omega) (by have := hb1.size; simp; omega) ?_; intro v2 w2 o2 g2 b2; have hb2 : Below w8.heap.size w8 w2 := (hb1.alloc hb1.size _).grown g2 (by have := hb1.size; simp; omega) (fun k hk => (World.ownsRow.lt o1 k hk).1); have q3 : w2.cell? ⟨w.heap.size, 2, none⟩ = some (.slice p2 s.nodes.length c2) := (bsc.below hb2 bsc.lt).cell 2) | (refine step_append_any _ rfl _ _ 23 rfl w8.heap.size 35 i0 _ 3 40 Tryd.underlying23 hi hz0 hz1 hz2 rfl (by decide) _ (0 + k + 1) _ rfl o2 w8.heap.size _ (s.nodes.length - k) (c2 - k) _ rfl (HRD.out w2 hb2) h1D (by unfold maxLen; omega) (by omega) hb2.size ?_; intro v3 w3 o3 g3 b3; have hb3 : Below w8.heap.size w8 w3 := hb2.grown g3 hb2.size (fun k hk => (World.ownsRow.lt o2 k hk).1)))
                  all_goals
                    have hLl : (s.nodes.take k ++ n :: s.nodes.drop k).length = 0 + k + 1 + (s.nodes.length - k) := by rw [List.length_append, List.length_take, List.length_cons, List.length_drop, Nat.min_eq_left hk]; omega
                    obtain ⟨q, d, rfl⟩ : ∃ q d, v3 = .slice q (0 + k + 1 + (s.nodes.length - k)) d := by
                      rcases o3.2 with ⟨_, h0⟩ | ⟨g, cap, cur, rfl, _⟩
                      · exact absurd h0 (by omega)
                      · exact ⟨_, cap, rfl⟩
                    rw [← hLl] at o3 ⊢
                    have hrw : [] ++ ((s.nodes.take k).map rowN).flatten ++ rowN n ++ ((s.nodes.drop k).map rowN).flatten = ((s.nodes.take k ++ n :: s.nodes.drop k).map rowN).flatten := by simp
                    rw [hrw] at o3
                    generalize hLE : s.nodes.take k ++ n :: s.nodes.drop k = L at *
                    have HLE := Lib.hid hLE.symm
                    have OL := Own.of (show OwnR w3 w8.heap.size 35 3 q d (L.map rowN) from ⟨fun r hr => by obtain ⟨x, _, rfl⟩ := List.mem_map.1 hr; rfl, by rw [List.length_map]; exact o3⟩)
                    clear hLl hrw hLE o1 o2 o3 h1A h1D HRA HRD
                    clear b3 g3 k2 k4
                    generalize (if c2 = k then p2 else Option.map (fun x => x.add (k * 3)) p2) = pq
                    go_wp2_with fail
                    go_meet
                    exact ⟨q, d, L, rfl, OL, Lib.hid rfl, hb3⟩
                case rest =>
                  obtain ⟨q, d, L, rfl, OL, HL, hwd⟩ := hcut
                  have bsd := bsc.below hwd bsc.lt
                  have hcd := hcw.trans (hwd.mono hcw.size)
                  have x2 : wc.cell? ⟨w.heap.size, 2, none⟩ = some (.slice p2 s.nodes.length c2) := bsd.cell 2
                  have f2 : wc.frozen? ⟨w.heap.size, 2, none⟩ = false := bsd.frozen 2
                  go_upto_region 11 with (fail)
                  have bse : Blk (wc.setCell ⟨w.heap.size, 2, none⟩ (.slice q L.length d)) w.heap.size 26 #[Value.int .i64 s.rev, Value.slice p1 s.jobs.length c1, Value.slice q L.length d, Value.slice p3 s.leases.length c3] := bsd.set_ 2 _
                  have hce := hcd.setCell (p := ⟨w.heap.size, 2, none⟩) (Nat.le_refl _) (.slice q L.length d)
                  have OE := OL.other (grow_cell wc w.heap.size 2 (.slice q L.length d)) bsd (by decide)
                  clear OL bsd hcd x2 f2 bsc bnc bs bn
                  generalize wc.setCell _ _ = W9 at *
                  have hF2 := HF.out.moreN n k hk h19 HNE.out HR.out (more_after HF.out (by rw [HIX.out]; exact hi1) HTT.out)
                  rw [← HL.out] at hF2
                  have hck := stCheck_any ⟨s.rev, s.jobs, L, s.leases⟩ p1 q p3 c1 d c3 W9 ⟨(HM.out.j.below hce).more hce.size, OE.elts, (HM.out.l.below hce).more hce.size⟩ hF2.sz (HT.out.below hce)
                  rw [(fine_iff _).2 hF2] at hck
                  have HCK := Lib.hid hck
                  clear hck hF2 HC0 HA HN OE
                  have z1 : (((0 : Nat) : Int) == 0) = true := rfl
                  go_wp2_with (refine wpList_load_blk_w (by rfl) _ _ rfl (w.heap.size) rfl _ #[Value.int .i64 s.rev, Value.slice p1 s.jobs.length c1, Value.slice q L.length d, Value.slice p3 s.leases.length c3] bse _ Tryd.underlying26 rfl state_size ?_)
                  refine HCK.out.mono ?_
                  rintro e w9 ⟨rfl, hb9⟩
                  have hbz := hce.trans (hb9.mono hce.size)
                  clear hb9
                  go_wp2_with fail
                  go_ret
                  exact ⟨rfl, hbz⟩
              · have HTT := Lib.hid htt
                clear htt
                have hkl : k < s.nodes.length := by
                  rcases Nat.lt_or_ge k s.nodes.length with h | h
                  · exact h
                  · have h2 := HTT.out; rw [tstM_ge (by omega)] at h2; cases h2
                have hkw : IntKind.i64.wrap ((k : Int) + 1) = (k : Int) + 1 := IntWalk.i64_in _ (by omega)
                go_wp2_with fail
                refine ⟨⟨k + 1, hkl, congrArg (Value.int .i64) (by omega), hbr.trans (hwc.mono hbs), Lib.hid (fun x hx => ?_)⟩, ?_⟩
                · obtain ⟨y, hy⟩ : ∃ y, s.nodes[k]? = some y := ⟨_, List.getElem?_eq_getElem hkl⟩
                  rw [List.take_add_one, hy] at hx
                  rcases List.mem_append.1 hx with hx | hx
                  · exact HR.out x hx
                  · simp at hx; subst hx; rw [← tstM_at hy]; exact HTT.out
                · show s.nodes.length - ((k : Int) + 1).toNat < s.nodes.length - (k : Int).toNat
                  omega
        · have hne : ((ne : Int) != 0) = true := by rw [bne_iff_ne]; omega
          clear hn0
          go_enter Tryd.func4, Tryd.ntmps4
          go_wp2_with fail
          generalize (w.alloc (.cells #[Value.int .i64 s.rev, Value.slice p1 s.jobs.length c1, Value.slice p2 s.nodes.length c2, Value.slice p3 s.leases.length c3] 26)).alloc (.cells #[Value.string n.name, Value.int .i64 n.room, Value.string n.zone] 35) = W0 at *
          refine (stated_any _ (HT.out.below hb1)).mono ?_
          rintro e w_1 ⟨rfl, hb_2⟩
          have b_3 := bx0.below hb_2 bx0.lt
          have b_4 := by0.below hb_2 by0.lt
          have c_5 := hb1.trans (hb_2.mono hb1.size)
          clear bx0 by0 hb1 hb_2
          go_wp2_with (first | (refine wpList_load_blk_w (by rfl) _ _ rfl (w.heap.size) rfl _ #[Value.int .i64 s.rev, Value.slice p1 s.jobs.length c1, Value.slice p2 s.nodes.length c2, Value.slice p3 s.leases.length c3] b_3 _ Tryd.underlying26 rfl state_size ?_) | (refine wpList_load_blk_w (by rfl) _ _ rfl (w.heap.size + 1) rfl _ #[Value.string n.name, Value.int .i64 n.room, Value.string n.zone] b_4 _ Tryd.underlying35 rfl node_size ?_))
          refine (HC0.out _ c_5).mono ?_
          rintro e w_6 ⟨rfl, hb_7⟩
          have b_8 := b_3.below hb_7 b_3.lt
          have b_9 := b_4.below hb_7 b_4.lt
          have c_10 := c_5.trans (hb_7.mono c_5.size)
          clear b_3 b_4 c_5 hb_7
          have z0 : (((0 : Nat) : Int) != 0) = false := rfl
          have e2 : w_6.cell? ⟨w.heap.size, 2, none⟩ = some (.slice p2 s.nodes.length c2) := b_8.cell 2
          have en : w_6.cell? ⟨w.heap.size + 1, 0, none⟩ = some (.string n.name) := b_9.cell 0
          go_wp2_with (first | (refine wpList_load_blk_w (by rfl) _ _ rfl (w.heap.size) rfl _ #[Value.int .i64 s.rev, Value.slice p1 s.jobs.length c1, Value.slice p2 s.nodes.length c2, Value.slice p3 s.leases.length c3] b_8 _ Tryd.underlying26 rfl state_size ?_) | (refine wpList_load_blk_w (by rfl) _ _ rfl (w.heap.size + 1) rfl _ #[Value.string n.name, Value.int .i64 n.room, Value.string n.zone] b_9 _ Tryd.underlying35 rfl node_size ?_))
          refine (HA.out _ c_10).mono ?_
          rintro e w_11 ⟨rfl, hb_12⟩
          have b_13 := b_8.below hb_12 b_8.lt
          have b_14 := b_9.below hb_12 b_9.lt
          have c_15 := c_10.trans (hb_12.mono c_10.size)
          clear b_8 b_9 c_10 hb_12
          clear e2 en
          go_wp2_with (first | (refine wpList_load_blk_w (by rfl) _ _ rfl (w.heap.size) rfl _ #[Value.int .i64 s.rev, Value.slice p1 s.jobs.length c1, Value.slice p2 s.nodes.length c2, Value.slice p3 s.leases.length c3] b_13 _ Tryd.underlying26 rfl state_size ?_) | (refine wpList_load_blk_w (by rfl) _ _ rfl (w.heap.size + 1) rfl _ #[Value.string n.name, Value.int .i64 n.room, Value.string n.zone] b_14 _ Tryd.underlying35 rfl node_size ?_))
          refine (HN.out _).mono ?_
          rintro e w_16 ⟨rfl, hb_17⟩
          have b_18 := b_13.below hb_17 b_13.lt
          have b_19 := b_14.below hb_17 b_14.lt
          have c_20 := c_15.trans (hb_17.mono c_15.size)
          clear b_13 b_14 c_15 hb_17
          go_wp2_with (first | (refine wpList_load_blk_w (by rfl) _ _ rfl (w.heap.size) rfl _ #[Value.int .i64 s.rev, Value.slice p1 s.jobs.length c1, Value.slice p2 s.nodes.length c2, Value.slice p3 s.leases.length c3] b_18 _ Tryd.underlying26 rfl state_size ?_) | (refine wpList_load_blk_w (by rfl) _ _ rfl (w.heap.size + 1) rfl _ #[Value.string n.name, Value.int .i64 n.room, Value.string n.zone] b_19 _ Tryd.underlying35 rfl node_size ?_))
          go_ret
          exact ⟨rfl, c_20⟩
    · have h20 : (19 : Int) < (s.nodes.length : Int) := by omega
      go_enter Tryd.func4, Tryd.ntmps4
      go_wp2_with fail
      generalize (w.alloc (.cells #[Value.int .i64 s.rev, Value.slice p1 s.jobs.length c1, Value.slice p2 s.nodes.length c2, Value.slice p3 s.leases.length c3] 26)).alloc (.cells #[Value.string n.name, Value.int .i64 n.room, Value.string n.zone] 35) = W0 at *
      refine (stated_any _ (HT.out.below hb1)).mono ?_
      rintro e w_1 ⟨rfl, hb_2⟩
      have b_3 := bx0.below hb_2 bx0.lt
      have b_4 := by0.below hb_2 by0.lt
      have c_5 := hb1.trans (hb_2.mono hb1.size)
      clear bx0 by0 hb1 hb_2
      go_wp2_with (first | (refine wpList_load_blk_w (by rfl) _ _ rfl (w.heap.size) rfl _ #[Value.int .i64 s.rev, Value.slice p1 s.jobs.length c1, Value.slice p2 s.nodes.length c2, Value.slice p3 s.leases.length c3] b_3 _ Tryd.underlying26 rfl state_size ?_) | (refine wpList_load_blk_w (by rfl) _ _ rfl (w.heap.size + 1) rfl _ #[Value.string n.name, Value.int .i64 n.room, Value.string n.zone] b_4 _ Tryd.underlying35 rfl node_size ?_))
      refine (HC0.out _ c_5).mono ?_
      rintro e w_6 ⟨rfl, hb_7⟩
      have b_8 := b_3.below hb_7 b_3.lt
      have b_9 := b_4.below hb_7 b_4.lt
      have c_10 := c_5.trans (hb_7.mono c_5.size)
      clear b_3 b_4 c_5 hb_7
      have z0 : (((0 : Nat) : Int) != 0) = false := rfl
      have e2 : w_6.cell? ⟨w.heap.size, 2, none⟩ = some (.slice p2 s.nodes.length c2) := b_8.cell 2
      have en : w_6.cell? ⟨w.heap.size + 1, 0, none⟩ = some (.string n.name) := b_9.cell 0
      go_wp2_with (first | (refine wpList_load_blk_w (by rfl) _ _ rfl (w.heap.size) rfl _ #[Value.int .i64 s.rev, Value.slice p1 s.jobs.length c1, Value.slice p2 s.nodes.length c2, Value.slice p3 s.leases.length c3] b_8 _ Tryd.underlying26 rfl state_size ?_) | (refine wpList_load_blk_w (by rfl) _ _ rfl (w.heap.size + 1) rfl _ #[Value.string n.name, Value.int .i64 n.room, Value.string n.zone] b_9 _ Tryd.underlying35 rfl node_size ?_))
      go_ret
      exact ⟨rfl, c_10⟩
  · have hne : ((checkE s : Int) != 0) = true := by rw [bne_iff_ne]; omega
    generalize checkE s = ce at *
    clear hc
    go_enter Tryd.func4, Tryd.ntmps4
    go_wp2_with fail
    generalize (w.alloc (.cells #[Value.int .i64 s.rev, Value.slice p1 s.jobs.length c1, Value.slice p2 s.nodes.length c2, Value.slice p3 s.leases.length c3] 26)).alloc (.cells #[Value.string n.name, Value.int .i64 n.room, Value.string n.zone] 35) = W0 at *
    refine (stated_any _ (HT.out.below hb1)).mono ?_
    rintro e w_1 ⟨rfl, hb_2⟩
    have b_3 := bx0.below hb_2 bx0.lt
    have b_4 := by0.below hb_2 by0.lt
    have c_5 := hb1.trans (hb_2.mono hb1.size)
    clear bx0 by0 hb1 hb_2
    go_wp2_with (first | (refine wpList_load_blk_w (by rfl) _ _ rfl (w.heap.size) rfl _ #[Value.int .i64 s.rev, Value.slice p1 s.jobs.length c1, Value.slice p2 s.nodes.length c2, Value.slice p3 s.leases.length c3] b_3 _ Tryd.underlying26 rfl state_size ?_) | (refine wpList_load_blk_w (by rfl) _ _ rfl (w.heap.size + 1) rfl _ #[Value.string n.name, Value.int .i64 n.room, Value.string n.zone] b_4 _ Tryd.underlying35 rfl node_size ?_))
    refine (HC.out _ c_5).mono ?_
    rintro e w_6 ⟨rfl, hb_7⟩
    have b_8 := b_3.below hb_7 b_3.lt
    have b_9 := b_4.below hb_7 b_4.lt
    have c_10 := c_5.trans (hb_7.mono c_5.size)
    clear b_3 b_4 c_5 hb_7
    go_wp2_with (first | (refine wpList_load_blk_w (by rfl) _ _ rfl (w.heap.size) rfl _ #[Value.int .i64 s.rev, Value.slice p1 s.jobs.length c1, Value.slice p2 s.nodes.length c2, Value.slice p3 s.leases.length c3] b_8 _ Tryd.underlying26 rfl state_size ?_) | (refine wpList_load_blk_w (by rfl) _ _ rfl (w.heap.size + 1) rfl _ #[Value.string n.name, Value.int .i64 n.room, Value.string n.zone] b_9 _ Tryd.underlying35 rfl node_size ?_))
    go_ret
    exact ⟨rfl, c_10⟩

theorem own : ownKnob Tryd.prog.godebug = none := by kernel_rfl
theorem laid : laidOutB Tryd.prog = true := by kernel_rfl
set_option maxRecDepth 100000 in
theorem contract (H : Type) (enc : TypeId × Value → H) (W : World) (base : Nat) (args : Array Value) (ds gs : List (DataW H)) (before : List MemPlace)
    (hval0 : ∀ (j : Nat) t v, Tryd.f4.params[j]? = some t → args[j]? = some v → Value.okWide Tryd.prog W .any base t v)
    (hW : DataW.Whole enc Tryd.prog Tryd.f4.params.toList Rows.stateMoreSpec.vars false W args.toList ds gs before)
    (hsz0 : (DataW.weightsEach Tryd.prog (Tryd.f4.params.toList ++ Rows.stateMoreSpec.plain.varTypes Tryd.prog) (ds ++ gs)).all (· ≤ reachBytes) = true)
    (hT : Tabs W) :
    Calls Tryd.prog 4 args W fun e W' => ∃ v, e = .returned v ∧ Rows.stateMoreSpec.post enc Tryd.prog Tryd.f4 false true false false W args v W' := by
  have hval : ∀ (j : Nat) t v, Tryd.f4.params[j]? = some t → args[j]? = some v → Value.okWide Tryd.prog W .any base t v := hval0
  have hsz : (DataW.weightsEach Tryd.prog (Tryd.f4.params.toList ++ Rows.stateMoreSpec.plain.varTypes Tryd.prog) (ds ++ gs)).all (· ≤ reachBytes) = true := hsz0
  have hlt : ∀ x ∈ before, x.block < W.heap.size := fun x hx => hW.lt x hx
  have hW' := hW
  obtain ⟨p, q, hA0, hV, rfl, hfz, hnd⟩ := hW
  have hA : DataW.TrodAll enc Tryd.prog W 0 (fun _ => true) true Tryd.f4.params.toList args.toList ds p := hA0
  rw [Tryd.params4] at hA hval hsz
  obtain ⟨v0, vs0, d0, ds0, p0, q0, hargs, rfl, rfl, h0, r0⟩ := trodAll_cons hA
  obtain ⟨v1, vs1, d1, ds1, p1, q1, rfl, rfl, rfl, h1, r1⟩ := trodAll_cons r0
  obtain ⟨rfl, rfl, rfl⟩ := trodAll_nil r1
  obtain rfl : args = #[v0, v1] := by cases args; simp_all
  obtain ⟨rfl, rfl⟩ := trodVars_none hV
  obtain ⟨s0, pj0, pn0, pl0, cj0, cn0, cl0, rfl, hm0, hk0, hcap0⟩ := open_stateC (hval 0 26 v0 rfl rfl) h0 hsz (j := 0) rfl rfl
  obtain ⟨c10, c11, c12, y10, y11, y12, m1, rfl, rfl, rfl, hy10, hy11, hy12⟩ := open_agg3 Tryd.underlying35 (by kernel_rfl) (by kernel_rfl) (hval 1 35 v1 rfl rfl) h1
  obtain ⟨nm1, e10, rfl, wa1⟩ := DataW.trod_string Tryd.underlying9 hy10
  obtain ⟨b1, e11, rfl, wb1⟩ := DataW.trod_int Tryd.underlying3 hy11
  obtain ⟨zn1, e12, rfl, ws1⟩ := DataW.trod_string Tryd.underlying9 hy12
  simp at e10 e11 e12; subst e10 e11 e12
  obtain ⟨bs1, bz1⟩ := node_sized hsz (j := 1) rfl rfl
  refine (walk s0 pj0 pn0 pl0 cj0 cn0 cl0 W hm0 hk0 hcap0 ⟨nm1, b1, zn1⟩ bs1 bz1 hT).mono fun e W' ⟨he, hb⟩ => ?_
  subst he
  exact ⟨_, rfl, law_post laid (by kernel_rfl) Tryd.underlying4 rfl rfl hW' rfl rfl rfl rfl hb⟩

theorem reads (os : Os) {H : Type} (enc : TypeId × Value → H) : ∃ places, DataW.whole enc Tryd.prog ((laidWorld os).forCall (fun _ _ => 0) ⟨#[], #[.agg #[.int .i64 0, .slice none 0 0, .slice none 0 0, .slice none 0 0], .agg #[.string ByteArray.empty, .int .i64 0, .string ByteArray.empty]], []⟩).memory Tryd.f4.params.toList Rows.stateMoreSpec.vars false (#[.agg #[.int .i64 0, .slice none 0 0, .slice none 0 0, .slice none 0 0], .agg #[.string ByteArray.empty, .int .i64 0, .string ByteArray.empty]] : Array Value).toList 8 = some ([.agg [.lit (.int .i64 0), .nil, .nil, .nil], .agg [.lit (.string []), .lit (.int .i64 0), .lit (.string [])]], [], places) :=
  ⟨[], by kernel_rfl⟩
set_option maxRecDepth 100000 in
theorem lifted (os : Os) (started : os.Started) (H : Type) (enc : TypeId × Value → H) (F : Stop.Interp) :
    ReturnsInHanded {} Tryd.checked os 4 .any ((OpenSpec.ofChange Rows.stateMoreSpec).preRow enc Tryd.prog Tryd.f4 Rows.stateMoreRow.domain false Rows.stateMoreRow.laid) (((OpenSpec.ofChange Rows.stateMoreSpec).at F).post enc Tryd.prog Tryd.f4 false true false false) := by
  obtain ⟨places, hx⟩ := reads os enc
  refine returnsInHanded_of_row (C := Tryd.checked) (s := (OpenSpec.ofChange Rows.stateMoreSpec)) own started (by kernel_rfl) Tryd.func4
    (witness_row_atRef (enc := enc) (C := Tryd.checked) false (laidWorld os) #[.agg #[.int .i64 0, .slice none 0 0, .slice none 0 0, .slice none 0 0], .agg #[.string ByteArray.empty, .int .i64 0, .string ByteArray.empty]] rfl (by kernel_rfl) (by kernel_rfl) (by kernel_rfl)
      (OpenSpec.preRow_of_cond 8 hx (by kernel_rfl) (fun k hk => by cases hk) (by kernel_rfl) (laid_met os _))) ?_
  intro W base args ds gs before hval0 hW _ hcond hsz0 hL _ _
  exact contract H enc W base args ds gs before hval0 hW hsz0 (tabs_of_laid hL)

theorem said : Rows.StateMoreSaid :=
  OpenClaim.holds_of_cond 4 Tryd.f4 rfl rfl rfl rfl rfl rfl rfl ⟨rfl, rfl, rfl, rfl, rfl⟩ rfl rfl rfl rfl rfl (by kernel_rfl) Tryd.func4 (by kernel_rfl)
    (of_decide_eq_true (by kernel_rfl)) (by unfold Func.isWrapper; first | (rw [if_pos (by decide +kernel)]; kernel_rfl) | (rw [if_neg (by decide +kernel)]; exact ⟨rfl, rfl⟩))
    (fun os started H enc _ F => by rw [OpenClaim.pre_eq_preRow]; exact lifted os started H enc F)

/-- No parameter wants a stand-in; the program's own looks are off. -/
theorem plain (f : FuncId) (fn : Func) (hf : Tryd.pinned.checked.prog.funcNamed "bracken/brackenkeep.StateMore" = some f) (hfn : Tryd.pinned.checked.prog.funcs[f]? = some fn) :
    false = Tryd.pinned.checked.prog.looks [] ∧ ∀ (j : Nat) t, fn.params[j]? = some t → Tryd.pinned.checked.prog.wantsStandIn t = false := by
  obtain rfl : f = 4 := Option.some.inj ((show Tryd.prog.funcNamed "bracken/brackenkeep.StateMore" = some 4 by kernel_rfl).symm.trans hf) |>.symm
  obtain rfl : fn = Tryd.f4 := (Option.some.inj (Tryd.func4.symm.trans hfn)).symm
  refine ⟨by kernel_rfl, fun j t ht => ?_⟩
  rw [Tryd.params4] at ht
  have hm := Array.mem_of_getElem? ht
  have hall : (#[26, 35] : Array TypeId).all (fun t => !Tryd.prog.wantsStandIn t) = true := by kernel_rfl
  have := Array.all_eq_true_iff_forall_mem.1 hall t (by simpa using hm)
  show Tryd.prog.wantsStandIn t = false
  simpa using this

/-- The statement. -/
theorem proved : Rows.StateMoreCardSaid :=
  Claim7.holds_tied_plain_at .later [] _ _ _ _ said (fun _ h => by cases h) (by kernel_rfl) (fun _ h => by cases h) stateMore_row_tie rfl ⟨rfl, rfl⟩ (by kernel_rfl) rfl plain (by kernel_rfl)
#print axioms proved
end Go.Proofs.YtnmokjgnbcfabaaDoor.stateMore
