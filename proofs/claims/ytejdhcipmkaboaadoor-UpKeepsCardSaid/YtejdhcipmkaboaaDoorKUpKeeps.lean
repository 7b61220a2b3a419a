/-
  The law UpKeeps of package brackenkeep: for every input it answers true.
-/
import Derived.Test.YtejdhcipmkaboaaDoorRows
import Derived.Test.YtejdhcipmkaboaaDoorPkBase
import Derived.Test.YtejdhcipmkaboaaDoorPkDown
import Derived.Test.YtejdhcipmkaboaaDoorPkUp
import Derived.Test.YtejdhcipmkaboaaDoorPkUpB
import Derived.Test.YtejdhcipmkaboaaDoorPkSame
import Derived.Test.YtejdhcipmkaboaaDoorPkStateB
set_option linter.unusedVariables false
set_option linter.unusedSimpArgs false
namespace Go.Proofs.YtejdhcipmkaboaaDoor.upKeeps
open Go.ChangeShapes Go.WideShapes Go.ChangeAt Go.RowKit Go.Joins
open Go.ChangeMaps (open_string)
theorem one_job (a b : ByteArray) (x y z : Int) : (#[Value.string a, Value.int .i64 x, Value.int .i64 y, Value.int .i64 z, Value.string b] : Array Value).all (·.oneCell') = true := by simp [Value.oneCell']
set_option maxHeartbeats 8000000 in
set_option maxRecDepth 100000 in
theorem walk (s : St) (p1 p2 p3 : Option Addr) (c1 c2 c3 : Nat) (w : World) (hm : StM w w.heap.size p1 p2 p3 s) (hk : StOk s) (n : Int) (n1 : -9223372036854775808 ≤ n) (n2 : n ≤ 9223372036854775807) (n' : Int) (n3 : -9223372036854775808 ≤ n') (n4 : n' ≤ 9223372036854775807) (hT : Tabs w) :
    Calls Tryd.prog 9 #[.agg #[.int .i64 s.rev, .slice p1 s.jobs.length c1, .slice p2 s.nodes.length c2, .slice p3 s.leases.length c3], .int .i64 n, .int .i64 n'] w fun e w' => e = .returned (.bool true) ∧ Below w.heap.size w w' := by
  have hb0 : Below w.heap.size w (w.alloc (.cells #[Value.int .i64 s.rev, Value.slice p1 s.jobs.length c1, Value.slice p2 s.nodes.length c2, Value.slice p3 s.leases.length c3] 26)) := (Below.refl _ _).alloc (Nat.le_refl _) _
  have bx0 := Blk.new w 26 #[Value.int .i64 s.rev, Value.slice p1 s.jobs.length c1, Value.slice p2 s.nodes.length c2, Value.slice p3 s.leases.length c3]
  have hz := hk.sz
  have h30v := Int.emod_nonneg n (show (3 : Int) ≠ 0 by decide)
  have h33v := Int.emod_lt_of_pos n (show (0 : Int) < 3 by decide)
  have HR := Lib.hid (fun (W : World) => rest_any n 3 W (by decide) (by decide))
  generalize n % 3 = m at *
  obtain ⟨v, rfl⟩ : ∃ v : Nat, m = (v : Int) - 1 := ⟨(m + 1).toNat, by omega⟩
  have hvv : 1 ≤ v ∧ v ≤ 3 := by omega
  have h30u := Int.emod_nonneg n' (show (3 : Int) ≠ 0 by decide)
  have h33u := Int.emod_lt_of_pos n' (show (0 : Int) < 3 by decide)
  have HR2 := Lib.hid (fun (W : World) => rest_any n' 3 W (by decide) (by decide))
  generalize n' % 3 = m' at *
  obtain ⟨u, rfl⟩ : ∃ u : Nat, m' = (u : Int) - 1 := ⟨(m' + 1).toNat, by omega⟩
  have hvu : 1 ≤ u ∧ u ≤ 3 := by omega
  have HM := Lib.hid hm
  have HZ := Lib.hid hz
  have HT := Lib.hid hT
  have hzs := zero_state_lit
  have hzj := zero_job_lit
  have HU := Lib.hid (fun (W : World) (hW : Below w.heap.size w W) => upState_any s (v : Int) (u : Int) p1 p2 p3 c1 c2 c3 W ((hm.below hW).more hW.size) hz (hT.below hW))
  clear hm hk hz hT n1 n2 n3 n4
  by_cases h0 : (upR s (v : Int) (u : Int)).2 = 0
  · obtain ⟨hw, hF, hf, hu⟩ := upR_ok h0
    have hFu := hF.upTo ((v : Int)).toNat ((u : Int) - (v : Int)).toNat
    have hnm := upTo_names s ((v : Int)).toNat ((u : Int) - (v : Int)).toNat
    have hle := upTo_leases s ((v : Int)).toNat ((u : Int) - (v : Int)).toNat
    have hlen := upTo_len s ((v : Int)).toNat ((u : Int) - (v : Int)).toNat
    have hc0 := (fine_iff _).2 hFu
    have HU2 := Lib.hid hu
    have HNM := Lib.hid hnm.1
    have HLE := Lib.hid hle
    have HLEN := Lib.hid hlen
    have HSU := Lib.hid hFu.sz
    have HC0 := Lib.hid hc0
    have lj : s.jobs.length ≤ 40 := hF.nj
    have ln : s.nodes.length ≤ 20 := hF.nn
    have ll : s.leases.length ≤ 40 := hF.nl
    generalize hue : upTo s ((v : Int)).toNat ((u : Int) - (v : Int)).toNat = uu at *
    clear hue
    clear h0 hw hF hf hu hFu hnm hle hlen hc0
    go_enter Tryd.func9, Tryd.ntmps9
    go_wp2_with fail
    generalize w.alloc _ = W_1 at *
    refine (upped_any _ (HT.out.below hb0)).mono ?_
    rintro e w_2 ⟨rfl, hb_3⟩
    have b_4 := bx0.below hb_3 bx0.lt
    have c_5 := hb0.trans (hb_3.mono hb0.size)
    clear bx0 hb0 hb_3
    go_wp2_with (first | (refine wpList_load_blk_w (by rfl) _ _ rfl (w.heap.size) rfl _ #[Value.int .i64 s.rev, Value.slice p1 s.jobs.length c1, Value.slice p2 s.nodes.length c2, Value.slice p3 s.leases.length c3] b_4 _ Tryd.underlying26 rfl state_size ?_))
    refine (HR.out _).mono ?_
    rintro e w' ⟨rfl, rfl⟩
    go_wp2_with (first | (refine wpList_load_blk_w (by rfl) _ _ rfl (w.heap.size) rfl _ #[Value.int .i64 s.rev, Value.slice p1 s.jobs.length c1, Value.slice p2 s.nodes.length c2, Value.slice p3 s.leases.length c3] b_4 _ Tryd.underlying26 rfl state_size ?_))
    refine (HR2.out _).mono ?_
    rintro e w' ⟨rfl, rfl⟩
    go_wp2_with (first | (refine wpList_load_blk_w (by rfl) _ _ rfl (w.heap.size) rfl _ #[Value.int .i64 s.rev, Value.slice p1 s.jobs.length c1, Value.slice p2 s.nodes.length c2, Value.slice p3 s.leases.length c3] b_4 _ Tryd.underlying26 rfl state_size ?_))
    refine (HU.out _ c_5).mono ?_
    rintro e w_6 ⟨t, er, q1, q2, q3, d1, d2, d3, rfl, hmt, hb_7, hd⟩
    rw [HU2.out] at hd
    injection hd with h1 h2
    subst h1 h2
    have b_8 := b_4.below hb_7 b_4.lt
    have c_9 := c_5.trans (hb_7.mono c_5.size)
    clear b_4 c_5 hb_7
    have k_10 := Below.refl w_6.heap.size w_6
    have HMU := Lib.hid hmt
    clear hmt
    obtain ⟨ul1, ul2, ul3⟩ := HLEN.out
    rw [ul1, ul2, ul3]
    clear ul1 ul2 ul3
    have b_11 := b_8.alloc (.cells #[Value.int .i64 uu.rev, Value.slice q1 s.jobs.length d1, Value.slice q2 s.nodes.length d2, Value.slice q3 s.leases.length d3] 26)
    have b_12 := Blk.new w_6 26 #[Value.int .i64 uu.rev, Value.slice q1 s.jobs.length d1, Value.slice q2 s.nodes.length d2, Value.slice q3 s.leases.length d3]
    have c_13 := c_9.alloc c_9.size (.cells #[Value.int .i64 uu.rev, Value.slice q1 s.jobs.length d1, Value.slice q2 s.nodes.length d2, Value.slice q3 s.leases.length d3] 26)
    have c_14 := k_10.alloc k_10.size (.cells #[Value.int .i64 uu.rev, Value.slice q1 s.jobs.length d1, Value.slice q2 s.nodes.length d2, Value.slice q3 s.leases.length d3] 26)
    clear b_8 c_9 k_10
    go_upto_region 5 with ((refine wpList_store_new rfl _ _ _ rfl rfl 26 _ #[Value.int .i64 uu.rev, Value.slice q1 s.jobs.length d1, Value.slice q2 s.nodes.length d2, Value.slice q3 s.leases.length d3] rfl state_size rfl (one_st4 _ _ _ _ _ _ _ _ _ _) ?_))
    generalize w_6.alloc _ = W_15 at *
    have e1 : W_15.cell? ⟨w.heap.size, 1, none⟩ = some (.slice p1 s.jobs.length c1) := b_11.cell 1
    have e2 : W_15.cell? ⟨w.heap.size, 2, none⟩ = some (.slice p2 s.nodes.length c2) := b_11.cell 2
    have e3 : W_15.cell? ⟨w.heap.size, 3, none⟩ = some (.slice p3 s.leases.length c3) := b_11.cell 3
    have u1 : W_15.cell? ⟨w_6.heap.size, 1, none⟩ = some (.slice q1 s.jobs.length d1) := b_12.cell 1
    have u2 : W_15.cell? ⟨w_6.heap.size, 2, none⟩ = some (.slice q2 s.nodes.length d2) := b_12.cell 2
    have u3 : W_15.cell? ⟨w_6.heap.size, 3, none⟩ = some (.slice q3 s.leases.length d3) := b_12.cell 3
    have hq := eqL_any p3 q3 c3 d3 s.leases uu.leases W_15 ((HM.out.below c_13).more c_13.size).l ((HMU.out.below c_14).more c_14.size).l (by omega) (by rw [HLE.out]; omega)
    rw [HLE.out, decide_eq_true rfl] at hq
    have HQ := Lib.hid hq
    clear hq
    go_wp2_with fail
    refine (HQ.out).mono ?_
    rintro e w_16 ⟨rfl, hb_17⟩
    have b_18 := b_11.below hb_17 b_11.lt
    have b_19 := b_12.below hb_17 b_12.lt
    have c_20 := c_13.trans (hb_17.mono c_13.size)
    have c_21 := c_14.trans (hb_17.mono c_14.size)
    clear b_11 b_12 c_13 c_14 hb_17
    clear e1 e2 e3 u1 u2 u3
    have e1 : w_16.cell? ⟨w.heap.size, 1, none⟩ = some (.slice p1 s.jobs.length c1) := b_18.cell 1
    go_wp2_with fail
    clear e1
    go_loopw [56] (fun i wr => ∃ k : Nat, k ≤ s.jobs.length ∧ i = .int .i64 k ∧ Below w_16.heap.size w_16 wr) (fun i _ => s.jobs.length - (intOf i).toNat)
    case atStart => exact ⟨0, Nat.zero_le _, rfl, Below.refl _ _⟩
    case round =>
      obtain ⟨k, hk, rfl, hbr⟩ := hrel
      have hBw := c_20.trans (hbr.mono c_20.size)
      have hBu := c_21.trans (hbr.mono c_21.size)
      have bsr := b_18.below hbr b_18.lt
      have bur := b_19.below hbr b_19.lt
      by_cases hlt : k < s.jobs.length
      · have hx : s.jobs[k]? = some s.jobs[k] := List.getElem?_eq_getElem hlt
        have hul := HLEN.out.1
        have hy : uu.jobs[k]? = some uu.jobs[k] := List.getElem?_eq_getElem (by omega)
        generalize s.jobs[k] = x at *
        generalize uu.jobs[k] = y at *
        have hk0 : (0 : Int) ≤ (k : Int) := by omega
        have hk1 : (k : Int) < (s.jobs.length : Int) := by omega
        have hxy : y.name = x.name ∧ y.prio = x.prio ∧ y.need = x.need := by
          have h1 := congrArg (fun l => l[k]?) HNM.out
          simp only [List.getElem?_map, hx, hy, Option.map_some, Option.some.injEq, Prod.mk.injEq] at h1
          exact h1
        obtain ⟨a, rfl, hab, _, hat⟩ := (((HM.out.below hBw).more hBw.size).j).at_ (k := k) (r := rowJ x) (by rw [List.getElem?_map, hx]; rfl)
        obtain ⟨b, rfl, hbb, _, hbt⟩ := (((HMU.out.below hBu).more hBu.size).j).at_ (k := k) (r := rowJ y) (by rw [List.getElem?_map, hy]; rfl)
        have hry : rowJ y = [Value.string x.name, Value.int .i64 x.prio, Value.int .i64 x.need, Value.int .i64 y.tries, Value.string y.tag] := by unfold rowJ; rw [hxy.1, hxy.2.1, hxy.2.2]
        rw [hry] at hbt
        have hb1 : Below wr.heap.size wr (wr.alloc (.cells #[Value.string x.name, Value.int .i64 x.prio, Value.int .i64 x.need, Value.int .i64 x.tries, Value.string x.tag] 49)) := (Below.refl _ _).alloc (Nat.le_refl _) _
        have hbt1 := hbt.below hb1 (by rw [block_of_add]; exact hbb)
        have u1 : (wr.alloc (.cells #[Value.string x.name, Value.int .i64 x.prio, Value.int .i64 x.need, Value.int .i64 x.tries, Value.string x.tag] 49)).cell? ⟨w_6.heap.size, 1, none⟩ = some (.slice (some b) s.jobs.length d1) := (bur.below hb1 bur.lt).cell 1
        have hb2 := hb1.alloc hb1.size (.cells #[Value.string x.name, Value.int .i64 x.prio, Value.int .i64 x.need, Value.int .i64 y.tries, Value.string y.tag] 49)
        have hB9 := hbr.trans (hb2.mono hbr.size)
        clear hx hy hxy hry hul hbt hb1 hb2 bsr bur hBw hBu
        go_wp2_with (first | (refine wpList_load_at rfl _ _ rfl (a.add (k * 5)) rfl [Value.string x.name, Value.int .i64 x.prio, Value.int .i64 x.need, Value.int .i64 x.tries, Value.string x.tag] _ hat Tryd.underlying49 rfl job_size ?_) | (refine wpList_store_new rfl _ _ _ rfl rfl 49 _ #[Value.string x.name, Value.int .i64 x.prio, Value.int .i64 x.need, Value.int .i64 x.tries, Value.string x.tag] rfl job_size rfl (one_job _ _ _ _ _) ?_) | (refine wpList_load_at rfl _ _ rfl (b.add (k * 5)) rfl [Value.string x.name, Value.int .i64 x.prio, Value.int .i64 x.need, Value.int .i64 y.tries, Value.string y.tag] _ hbt1 Tryd.underlying49 rfl job_size ?_) | (refine wpList_store_new rfl _ _ _ rfl rfl 49 _ #[Value.string x.name, Value.int .i64 x.prio, Value.int .i64 x.need, Value.int .i64 y.tries, Value.string y.tag] rfl job_size rfl (one_job _ _ _ _ _) ?_))
        go_roundw
        case rel => exact ⟨k + 1, by omega, by go_num, hB9⟩
        case measure => simp [intOf]; omega
      · have hC := stCheck_any uu q1 q2 q3 d1 d2 d3 wr ((HMU.out.below hBu).more hBu.size) HSU.out (HT.out.below hBw)
        obtain ⟨ul1, ul2, ul3⟩ := HLEN.out
        rw [HC0.out, ul1, ul2, ul3] at hC
        have HC := Lib.hid hC
        clear hC ul1 ul2 ul3
        obtain rfl : k = s.jobs.length := by omega
        go_wp2_with (refine wpList_load_blk rfl _ _ rfl (w_6.heap.size) rfl _ #[Value.int .i64 uu.rev, Value.slice q1 s.jobs.length d1, Value.slice q2 s.nodes.length d2, Value.slice q3 s.leases.length d3] bur _ Tryd.underlying26 rfl state_size ?_)
        refine HC.out.mono ?_
        rintro e w9 ⟨rfl, hb9⟩
        go_wp2_with fail
        go_ret
        exact ⟨rfl, hBw.trans (hb9.mono hBw.size)⟩
  · have hne : (((upR s (v : Int) (u : Int)).2 : Int) != 0) = true := by rw [bne_iff_ne]; omega
    have hd0 : ∃ z, upR s (v : Int) (u : Int) = (z, (upR s (v : Int) (u : Int)).2) := ⟨_, rfl⟩
    have HD0 := Lib.hid hd0
    clear hd0 h0
    generalize (upR s (v : Int) (u : Int)).2 = ee at *
    go_enter Tryd.func9, Tryd.ntmps9
    go_wp2_with fail
    generalize w.alloc _ = W_1 at *
    refine (upped_any _ (HT.out.below hb0)).mono ?_
    rintro e w_2 ⟨rfl, hb_3⟩
    have b_4 := bx0.below hb_3 bx0.lt
    have c_5 := hb0.trans (hb_3.mono hb0.size)
    clear bx0 hb0 hb_3
    go_wp2_with (first | (refine wpList_load_blk_w (by rfl) _ _ rfl (w.heap.size) rfl _ #[Value.int .i64 s.rev, Value.slice p1 s.jobs.length c1, Value.slice p2 s.nodes.length c2, Value.slice p3 s.leases.length c3] b_4 _ Tryd.underlying26 rfl state_size ?_))
    refine (HR.out _).mono ?_
    rintro e w' ⟨rfl, rfl⟩
    go_wp2_with (first | (refine wpList_load_blk_w (by rfl) _ _ rfl (w.heap.size) rfl _ #[Value.int .i64 s.rev, Value.slice p1 s.jobs.length c1, Value.slice p2 s.nodes.length c2, Value.slice p3 s.leases.length c3] b_4 _ Tryd.underlying26 rfl state_size ?_))
    refine (HR2.out _).mono ?_
    rintro e w' ⟨rfl, rfl⟩
    go_wp2_with (first | (refine wpList_load_blk_w (by rfl) _ _ rfl (w.heap.size) rfl _ #[Value.int .i64 s.rev, Value.slice p1 s.jobs.length c1, Value.slice p2 s.nodes.length c2, Value.slice p3 s.leases.length c3] b_4 _ Tryd.underlying26 rfl state_size ?_))
    refine (HU.out _ c_5).mono ?_
    rintro e w_6 ⟨t, er, q1, q2, q3, d1, d2, d3, rfl, hmt, hb_7, hd⟩
    obtain ⟨z, hz⟩ := HD0.out
    rw [hz] at hd
    injection hd with h1 h2
    subst h1 h2
    clear hmt hz
    have b_8 := b_4.below hb_7 b_4.lt
    have c_9 := c_5.trans (hb_7.mono c_5.size)
    clear b_4 c_5 hb_7
    have k_10 := Below.refl w_6.heap.size w_6
    clear k_10
    have b_11 := b_8.alloc (.cells #[Value.int .i64 z.rev, Value.slice q1 z.jobs.length d1, Value.slice q2 z.nodes.length d2, Value.slice q3 z.leases.length d3] 26)
    have b_12 := Blk.new w_6 26 #[Value.int .i64 z.rev, Value.slice q1 z.jobs.length d1, Value.slice q2 z.nodes.length d2, Value.slice q3 z.leases.length d3]
    have c_13 := c_9.alloc c_9.size (.cells #[Value.int .i64 z.rev, Value.slice q1 z.jobs.length d1, Value.slice q2 z.nodes.length d2, Value.slice q3 z.leases.length d3] 26)
    clear b_8 c_9
    go_wp2_with (first | (refine wpList_store_new rfl _ _ _ rfl rfl 26 _ #[Value.int .i64 z.rev, Value.slice q1 z.jobs.length d1, Value.slice q2 z.nodes.length d2, Value.slice q3 z.leases.length d3] rfl state_size rfl (one_st4 _ _ _ _ _ _ _ _ _ _) ?_) | (refine wpList_load_blk_w (by rfl) _ _ rfl (w.heap.size) rfl _ #[Value.int .i64 s.rev, Value.slice p1 s.jobs.length c1, Value.slice p2 s.nodes.length c2, Value.slice p3 s.leases.length c3] b_11 _ Tryd.underlying26 rfl state_size ?_) | (refine wpList_load_blk_w (by rfl) _ _ rfl (w_6.heap.size) rfl _ #[Value.int .i64 z.rev, Value.slice q1 z.jobs.length d1, Value.slice q2 z.nodes.length d2, Value.slice q3 z.leases.length d3] b_12 _ Tryd.underlying26 rfl state_size ?_))
    go_ret
    exact ⟨rfl, c_13⟩

theorem own : ownKnob Tryd.prog.godebug = none := by kernel_rfl
theorem laid : laidOutB Tryd.prog = true := by kernel_rfl
set_option maxRecDepth 100000 in
theorem contract (H : Type) (enc : TypeId × Value → H) (W : World) (base : Nat) (args : Array Value) (ds gs : List (DataW H)) (before : List MemPlace)
    (hval0 : ∀ (j : Nat) t v, Tryd.f9.params[j]? = some t → args[j]? = some v → Value.okWide Tryd.prog W .any base t v)
    (hW : DataW.Whole enc Tryd.prog Tryd.f9.params.toList Rows.upKeepsSpec.vars false W args.toList ds gs before)
    (hsz0 : (DataW.weightsEach Tryd.prog (Tryd.f9.params.toList ++ Rows.upKeepsSpec.plain.varTypes Tryd.prog) (ds ++ gs)).all (· ≤ reachBytes) = true)
    (hT : Tabs W) :
    Calls Tryd.prog 9 args W fun e W' => ∃ v, e = .returned v ∧ Rows.upKeepsSpec.post enc Tryd.prog Tryd.f9 false true false false W args v W' := by
  have hval : ∀ (j : Nat) t v, Tryd.f9.params[j]? = some t → args[j]? = some v → Value.okWide Tryd.prog W .any base t v := hval0
  have hsz : (DataW.weightsEach Tryd.prog (Tryd.f9.params.toList ++ Rows.upKeepsSpec.plain.varTypes Tryd.prog) (ds ++ gs)).all (· ≤ reachBytes) = true := hsz0
  have hlt : ∀ x ∈ before, x.block < W.heap.size := fun x hx => hW.lt x hx
  have hW' := hW
  obtain ⟨p, q, hA0, hV, rfl, hfz, hnd⟩ := hW
  have hA : DataW.TrodAll enc Tryd.prog W 0 (fun _ => true) true Tryd.f9.params.toList args.toList ds p := hA0
  rw [Tryd.params9] at hA hval hsz
  obtain ⟨v0, vs0, d0, ds0, p0, q0, hargs, rfl, rfl, h0, r0⟩ := trodAll_cons hA
  obtain ⟨v1, vs1, d1, ds1, p1, q1, rfl, rfl, rfl, h1, r1⟩ := trodAll_cons r0
  obtain ⟨v2, vs2, d2, ds2, p2, q2, rfl, rfl, rfl, h2, r2⟩ := trodAll_cons r1
  obtain ⟨rfl, rfl, rfl⟩ := trodAll_nil r2
  obtain rfl : args = #[v0, v1, v2] := by cases args; simp_all
  obtain ⟨rfl, rfl⟩ := trodVars_none hV
  obtain ⟨s0, pj0, pn0, pl0, cj0, cn0, cl0, rfl, hm0, hk0⟩ := open_state (hval 0 26 v0 rfl rfl) h0 hsz (j := 0) rfl rfl
  obtain ⟨a1, rfl, rfl, rfl, w1⟩ := open_int Tryd.underlying3 (hval 1 3 v1 rfl rfl) h1
  have b1 := bounds_i64 w1
  obtain ⟨a2, rfl, rfl, rfl, w2⟩ := open_int Tryd.underlying3 (hval 2 3 v2 rfl rfl) h2
  have b2 := bounds_i64 w2
  refine (walk s0 pj0 pn0 pl0 cj0 cn0 cl0 W hm0 hk0 a1 b1.1 b1.2 a2 b2.1 b2.2 hT).mono fun e W' ⟨he, hb⟩ => ?_
  subst he
  exact ⟨_, rfl, law_post laid (by kernel_rfl) Tryd.underlying4 rfl rfl hW' rfl rfl rfl rfl hb⟩

theorem reads (os : Os) {H : Type} (enc : TypeId × Value → H) : ∃ places, DataW.whole enc Tryd.prog ((laidWorld os).forCall (fun _ _ => 0) ⟨#[], #[.agg #[.int .i64 0, .slice none 0 0, .slice none 0 0, .slice none 0 0], .int .i64 0, .int .i64 0], []⟩).memory Tryd.f9.params.toList Rows.upKeepsSpec.vars false (#[.agg #[.int .i64 0, .slice none 0 0, .slice none 0 0, .slice none 0 0], .int .i64 0, .int .i64 0] : Array Value).toList 8 = some ([.agg [.lit (.int .i64 0), .nil, .nil, .nil], .lit (.int .i64 0), .lit (.int .i64 0)], [], places) :=
  ⟨[], by kernel_rfl⟩
set_option maxRecDepth 100000 in
theorem lifted (os : Os) (started : os.Started) (H : Type) (enc : TypeId × Value → H) (F : Stop.Interp) :
    ReturnsInHanded {} Tryd.checked os 9 .any ((OpenSpec.ofChange Rows.upKeepsSpec).preRow enc Tryd.prog Tryd.f9 Rows.upKeepsRow.domain false Rows.upKeepsRow.laid) (((OpenSpec.ofChange Rows.upKeepsSpec).at F).post enc Tryd.prog Tryd.f9 false true false false) := by
  obtain ⟨places, hx⟩ := reads os enc
  refine returnsInHanded_of_row (C := Tryd.checked) (s := (OpenSpec.ofChange Rows.upKeepsSpec)) own started (by kernel_rfl) Tryd.func9
    (witness_row_atRef (enc := enc) (C := Tryd.checked) false (laidWorld os) #[.agg #[.int .i64 0, .slice none 0 0, .slice none 0 0, .slice none 0 0], .int .i64 0, .int .i64 0] rfl (by kernel_rfl) (by kernel_rfl) (by kernel_rfl)
      (OpenSpec.preRow_of_cond 8 hx (by kernel_rfl) (fun k hk => by cases hk) (by kernel_rfl) (laid_met os _))) ?_
  intro W base args ds gs before hval0 hW _ hcond hsz0 hL _ _
  exact contract H enc W base args ds gs before hval0 hW hsz0 (tabs_of_laid hL)

theorem said : Rows.UpKeepsSaid :=
  OpenClaim.holds_of_cond 9 Tryd.f9 rfl rfl rfl rfl rfl rfl rfl ⟨rfl, rfl, rfl, rfl, rfl⟩ rfl rfl rfl rfl rfl (by kernel_rfl) Tryd.func9 (by kernel_rfl)
    (of_decide_eq_true (by kernel_rfl)) (by unfold Func.isWrapper; first | (rw [if_pos (by decide +kernel)]; kernel_rfl) | (rw [if_neg (by decide +kernel)]; exact ⟨rfl, rfl⟩))
    (fun os started H enc _ F => by rw [OpenClaim.pre_eq_preRow]; exact lifted os started H enc F)

/-- No parameter wants a stand-in; the program's own looks are off. -/
theorem plain (f : FuncId) (fn : Func) (hf : Tryd.pinned.checked.prog.funcNamed "bracken/brackenkeep.UpKeeps" = some f) (hfn : Tryd.pinned.checked.prog.funcs[f]? = some fn) :
    false = Tryd.pinned.checked.prog.looks [] ∧ ∀ (j : Nat) t, fn.params[j]? = some t → Tryd.pinned.checked.prog.wantsStandIn t = false := by
  obtain rfl : f = 9 := Option.some.inj ((show Tryd.prog.funcNamed "bracken/brackenkeep.UpKeeps" = some 9 by kernel_rfl).symm.trans hf) |>.symm
  obtain rfl : fn = Tryd.f9 := (Option.some.inj (Tryd.func9.symm.trans hfn)).symm
  refine ⟨by kernel_rfl, fun j t ht => ?_⟩
  rw [Tryd.params9] at ht
  have hm := Array.mem_of_getElem? ht
  have hall : (#[26, 3, 3] : Array TypeId).all (fun t => !Tryd.prog.wantsStandIn t) = true := by kernel_rfl
  have := Array.all_eq_true_iff_forall_mem.1 hall t (by simpa using hm)
  show Tryd.prog.wantsStandIn t = false
  simpa using this

/-- The statement. -/
theorem proved : Rows.UpKeepsCardSaid :=
  Claim7.holds_tied_plain_at .later [] _ _ _ _ said (fun _ h => by cases h) (by kernel_rfl) (fun _ h => by cases h) upKeeps_row_tie rfl ⟨rfl, rfl⟩ (by kernel_rfl) rfl plain (by kernel_rfl)
#print axioms proved
end Go.Proofs.YtejdhcipmkaboaaDoor.upKeeps
