/-
  The law WireOne of package brackenkeep: for every input it answers true.
-/
import Derived.Test.YtejdhcipmkaboaaDoorRows
import Derived.Test.YtejdhcipmkaboaaDoorPkBase
import Derived.Test.YtejdhcipmkaboaaDoorPkEnc
import Derived.Test.YtejdhcipmkaboaaDoorPkWired
import Derived.Test.YtejdhcipmkaboaaDoorPkStateB
set_option linter.unusedVariables false
set_option linter.unusedSimpArgs false
namespace Go.Proofs.YtejdhcipmkaboaaDoor.wireOne
open Go.ChangeShapes Go.WideShapes Go.ChangeAt Go.RowKit Go.Joins
open Go.ChangeMaps (open_string)
set_option maxHeartbeats 8000000 in
set_option maxRecDepth 100000 in
theorem walk (a : St) (p1 p2 p3 : Option Addr) (c1 c2 c3 : Nat) (w : World) (hm : StM w w.heap.size p1 p2 p3 a) (hk : StOk a) (b : St) (q1 q2 q3 : Option Addr) (d1 d2 d3 : Nat) (hm2 : StM w w.heap.size q1 q2 q3 b) (hk2 : StOk b) (n : Int) (n1 : -9223372036854775808 ≤ n) (n2 : n ≤ 9223372036854775807) (hT : Tabs w) :
    Calls Tryd.prog 5 #[.agg #[.int .i64 a.rev, .slice p1 a.jobs.length c1, .slice p2 a.nodes.length c2, .slice p3 a.leases.length c3], .agg #[.int .i64 b.rev, .slice q1 b.jobs.length d1, .slice q2 b.nodes.length d2, .slice q3 b.leases.length d3], .int .i64 n] w fun e w' => e = .returned (.bool true) ∧ Below w.heap.size w w' := by
  have hs1 : (w.alloc (.cells #[Value.int .i64 a.rev, Value.slice p1 a.jobs.length c1, Value.slice p2 a.nodes.length c2, Value.slice p3 a.leases.length c3] 26)).heap.size = w.heap.size + 1 := by simp
  have bA := (Blk.new w 26 #[Value.int .i64 a.rev, Value.slice p1 a.jobs.length c1, Value.slice p2 a.nodes.length c2, Value.slice p3 a.leases.length c3]).alloc (.cells #[Value.int .i64 b.rev, Value.slice q1 b.jobs.length d1, Value.slice q2 b.nodes.length d2, Value.slice q3 b.leases.length d3] 26)
  have bB := Blk.new (w.alloc (.cells #[Value.int .i64 a.rev, Value.slice p1 a.jobs.length c1, Value.slice p2 a.nodes.length c2, Value.slice p3 a.leases.length c3] 26)) 26 #[Value.int .i64 b.rev, Value.slice q1 b.jobs.length d1, Value.slice q2 b.nodes.length d2, Value.slice q3 b.leases.length d3]
  rw [hs1] at bB
  have hb0 : Below w.heap.size w ((w.alloc (.cells #[Value.int .i64 a.rev, Value.slice p1 a.jobs.length c1, Value.slice p2 a.nodes.length c2, Value.slice p3 a.leases.length c3] 26)).alloc (.cells #[Value.int .i64 b.rev, Value.slice q1 b.jobs.length d1, Value.slice q2 b.nodes.length d2, Value.slice q3 b.leases.length d3] 26)) := ((Below.refl _ _).alloc (Nat.le_refl _) _).alloc (by omega) _
  have hz := hk.sz
  have hz2 := hk2.sz
  have h30 := Int.emod_nonneg n (show (3 : Int) ≠ 0 by decide)
  have h33 := Int.emod_lt_of_pos n (show (0 : Int) < 3 by decide)
  have HR := Lib.hid (fun (W : World) => rest_any n 3 W (by decide) (by decide))
  generalize n % 3 = m at *
  have HA := Lib.hid (fun (W : World) (hW : Below w.heap.size w W) => encode_state a (m + 1) p1 p2 p3 c1 c2 c3 W ((hm.below hW).more hW.size) hz (hT.below hW))
  have HB := Lib.hid (fun (W : World) (hW : Below w.heap.size w W) => encode_state b (m + 1) q1 q2 q3 d1 d2 d3 W ((hm2.below hW).more hW.size) hz2 (hT.below hW))
  have HS := Lib.hid (fun (W : World) (hW : Below w.heap.size w W) => same_any a b p1 p2 p3 q1 q2 q3 c1 c2 c3 d1 d2 d3 W ((hm.below hW).more hW.size) ((hm2.below hW).more hW.size) hz hz2)
  have HT := Lib.hid hT
  have hq : (encR (m + 1) a).2 = 0 → (encR (m + 1) b).2 = 0 → ((bstr (encR (m + 1) a).1).toList == (bstr (encR (m + 1) b).1).toList) = decide (a = b) := fun h1 h2 => by
    obtain ⟨e1, k1, _⟩ := encR_ok h1
    obtain ⟨e2, k2, _⟩ := encR_ok h2
    rw [e1, e2, tl_beq]
    by_cases h : a = b
    · subst h; simp
    · rw [decide_eq_false h, decide_eq_false]
      exact fun e => h (encS_inj _ a b k1 k2 (bstr_inj e))
  have HQ := Lib.hid hq
  clear hT hm hz hk hm2 hz2 hk2 hq n1 n2
  generalize encR (m + 1) a = ra at *
  generalize encR (m + 1) b = rb at *
  obtain ⟨oa, ea⟩ := ra
  obtain ⟨ob, eb⟩ := rb
  have HQ2 : Hid (ea = 0 → eb = 0 → ((bstr oa).toList == (bstr ob).toList) = decide (a = b)) := HQ
  generalize bstr oa = sa at *
  generalize bstr ob = sb at *
  by_cases h1 : ea = 0
  · by_cases h2 : eb = 0
    · have hqq := HQ2.out h1 h2
      have z1 : ((ea : Int) != 0) = false := by rw [h1]; rfl
      have z2 : ((eb : Int) != 0) = false := by rw [h2]; rfl
      generalize decide (a = b) = xd at *
      clear h1 h2 HQ HQ2
      go_enter Tryd.func5, Tryd.ntmps5
      go_wp2_with fail
      generalize (w.alloc _).alloc _ = W0 at *
      refine (wired_any W0 (HT.out.below hb0)).mono ?_
      rintro e w1 ⟨rfl, hb1⟩
      have hB1 := hb0.trans (hb1.mono hb0.size)
      have bA1 := bA.below hb1 bA.lt
      have bB1 := bB.below hb1 bB.lt
      clear hb1 hb0 bA bB
      go_wp2_with fail
      refine (HR.out w1).mono ?_
      rintro e w' ⟨rfl, rfl⟩
      have e0 : w1.cell? ⟨w.heap.size, 0, none⟩ = some (.int .i64 a.rev) := bA1.cell 0
      have e1 : w1.cell? ⟨w.heap.size, 1, none⟩ = some (.slice p1 a.jobs.length c1) := bA1.cell 1
      have e2 : w1.cell? ⟨w.heap.size, 2, none⟩ = some (.slice p2 a.nodes.length c2) := bA1.cell 2
      have e3 : w1.cell? ⟨w.heap.size, 3, none⟩ = some (.slice p3 a.leases.length c3) := bA1.cell 3
      go_wp2_with fail
      refine (HA.out w1 hB1).mono ?_
      rintro e w2 ⟨rfl, hb2⟩
      have hB2 := hB1.trans (hb2.mono hB1.size)
      have bA2 := bA1.below hb2 bA1.lt
      have bB2 := bB1.below hb2 bB1.lt
      clear e0 e1 e2 e3 hb2 hB1 bA1 bB1
      have e0 : w2.cell? ⟨(w.heap.size + 1), 0, none⟩ = some (.int .i64 b.rev) := bB2.cell 0
      have e1 : w2.cell? ⟨(w.heap.size + 1), 1, none⟩ = some (.slice q1 b.jobs.length d1) := bB2.cell 1
      have e2 : w2.cell? ⟨(w.heap.size + 1), 2, none⟩ = some (.slice q2 b.nodes.length d2) := bB2.cell 2
      have e3 : w2.cell? ⟨(w.heap.size + 1), 3, none⟩ = some (.slice q3 b.leases.length d3) := bB2.cell 3
      go_wp2_with fail
      refine (HB.out w2 hB2).mono ?_
      rintro e w3 ⟨rfl, hb3⟩
      have hB3 := hB2.trans (hb3.mono hB2.size)
      have bA3 := bA2.below hb3 bA2.lt
      have bB3 := bB2.below hb3 bB2.lt
      clear e0 e1 e2 e3 hb3 hB2 bA2 bB2
      have e0 : w3.cell? ⟨w.heap.size, 0, none⟩ = some (.int .i64 a.rev) := bA3.cell 0
      have e1 : w3.cell? ⟨w.heap.size, 1, none⟩ = some (.slice p1 a.jobs.length c1) := bA3.cell 1
      have e2 : w3.cell? ⟨w.heap.size, 2, none⟩ = some (.slice p2 a.nodes.length c2) := bA3.cell 2
      have e3 : w3.cell? ⟨w.heap.size, 3, none⟩ = some (.slice p3 a.leases.length c3) := bA3.cell 3
      have f0 : w3.cell? ⟨(w.heap.size + 1), 0, none⟩ = some (.int .i64 b.rev) := bB3.cell 0
      have f1 : w3.cell? ⟨(w.heap.size + 1), 1, none⟩ = some (.slice q1 b.jobs.length d1) := bB3.cell 1
      have f2 : w3.cell? ⟨(w.heap.size + 1), 2, none⟩ = some (.slice q2 b.nodes.length d2) := bB3.cell 2
      have f3 : w3.cell? ⟨(w.heap.size + 1), 3, none⟩ = some (.slice q3 b.leases.length d3) := bB3.cell 3
      go_wp2_with fail
      refine (HS.out w3 hB3).mono ?_
      rintro e w4 ⟨rfl, hb4⟩
      cases xd
      · go_wp2_with fail
        go_ret
        exact ⟨rfl, hB3.trans (hb4.mono hB3.size)⟩
      · go_wp2_with fail
        go_ret
        exact ⟨rfl, hB3.trans (hb4.mono hB3.size)⟩
    · have z1 : ((ea : Int) != 0) = false := by rw [h1]; rfl
      have z2 : ((eb : Int) != 0) = true := by rw [bne_iff_ne]; omega
      clear h1 h2 HQ HQ2
      go_enter Tryd.func5, Tryd.ntmps5
      go_wp2_with fail
      generalize (w.alloc _).alloc _ = W0 at *
      refine (wired_any W0 (HT.out.below hb0)).mono ?_
      rintro e w1 ⟨rfl, hb1⟩
      have hB1 := hb0.trans (hb1.mono hb0.size)
      have bA1 := bA.below hb1 bA.lt
      have bB1 := bB.below hb1 bB.lt
      clear hb1 hb0 bA bB
      go_wp2_with fail
      refine (HR.out w1).mono ?_
      rintro e w' ⟨rfl, rfl⟩
      have e0 : w1.cell? ⟨w.heap.size, 0, none⟩ = some (.int .i64 a.rev) := bA1.cell 0
      have e1 : w1.cell? ⟨w.heap.size, 1, none⟩ = some (.slice p1 a.jobs.length c1) := bA1.cell 1
      have e2 : w1.cell? ⟨w.heap.size, 2, none⟩ = some (.slice p2 a.nodes.length c2) := bA1.cell 2
      have e3 : w1.cell? ⟨w.heap.size, 3, none⟩ = some (.slice p3 a.leases.length c3) := bA1.cell 3
      go_wp2_with fail
      refine (HA.out w1 hB1).mono ?_
      rintro e w2 ⟨rfl, hb2⟩
      have hB2 := hB1.trans (hb2.mono hB1.size)
      have bA2 := bA1.below hb2 bA1.lt
      have bB2 := bB1.below hb2 bB1.lt
      clear e0 e1 e2 e3 hb2 hB1 bA1 bB1
      have e0 : w2.cell? ⟨(w.heap.size + 1), 0, none⟩ = some (.int .i64 b.rev) := bB2.cell 0
      have e1 : w2.cell? ⟨(w.heap.size + 1), 1, none⟩ = some (.slice q1 b.jobs.length d1) := bB2.cell 1
      have e2 : w2.cell? ⟨(w.heap.size + 1), 2, none⟩ = some (.slice q2 b.nodes.length d2) := bB2.cell 2
      have e3 : w2.cell? ⟨(w.heap.size + 1), 3, none⟩ = some (.slice q3 b.leases.length d3) := bB2.cell 3
      go_wp2_with fail
      refine (HB.out w2 hB2).mono ?_
      rintro e w3 ⟨rfl, hb3⟩
      have hB3 := hB2.trans (hb3.mono hB2.size)
      have bA3 := bA2.below hb3 bA2.lt
      have bB3 := bB2.below hb3 bB2.lt
      clear e0 e1 e2 e3 hb3 hB2 bA2 bB2
      have e0 : w3.cell? ⟨w.heap.size, 0, none⟩ = some (.int .i64 a.rev) := bA3.cell 0
      have e1 : w3.cell? ⟨w.heap.size, 1, none⟩ = some (.slice p1 a.jobs.length c1) := bA3.cell 1
      have e2 : w3.cell? ⟨w.heap.size, 2, none⟩ = some (.slice p2 a.nodes.length c2) := bA3.cell 2
      have e3 : w3.cell? ⟨w.heap.size, 3, none⟩ = some (.slice p3 a.leases.length c3) := bA3.cell 3
      have f0 : w3.cell? ⟨(w.heap.size + 1), 0, none⟩ = some (.int .i64 b.rev) := bB3.cell 0
      have f1 : w3.cell? ⟨(w.heap.size + 1), 1, none⟩ = some (.slice q1 b.jobs.length d1) := bB3.cell 1
      have f2 : w3.cell? ⟨(w.heap.size + 1), 2, none⟩ = some (.slice q2 b.nodes.length d2) := bB3.cell 2
      have f3 : w3.cell? ⟨(w.heap.size + 1), 3, none⟩ = some (.slice q3 b.leases.length d3) := bB3.cell 3
      go_wp2_with fail
      go_ret
      exact ⟨rfl, hB3⟩
  · have z1 : ((ea : Int) != 0) = true := by rw [bne_iff_ne]; omega
    clear h1 HQ HQ2
    go_enter Tryd.func5, Tryd.ntmps5
    go_wp2_with fail
    generalize (w.alloc _).alloc _ = W0 at *
    refine (wired_any W0 (HT.out.below hb0)).mono ?_
    rintro e w1 ⟨rfl, hb1⟩
    have hB1 := hb0.trans (hb1.mono hb0.size)
    have bA1 := bA.below hb1 bA.lt
    have bB1 := bB.below hb1 bB.lt
    clear hb1 hb0 bA bB
    go_wp2_with fail
    refine (HR.out w1).mono ?_
    rintro e w' ⟨rfl, rfl⟩
    have e0 : w1.cell? ⟨w.heap.size, 0, none⟩ = some (.int .i64 a.rev) := bA1.cell 0
    have e1 : w1.cell? ⟨w.heap.size, 1, none⟩ = some (.slice p1 a.jobs.length c1) := bA1.cell 1
    have e2 : w1.cell? ⟨w.heap.size, 2, none⟩ = some (.slice p2 a.nodes.length c2) := bA1.cell 2
    have e3 : w1.cell? ⟨w.heap.size, 3, none⟩ = some (.slice p3 a.leases.length c3) := bA1.cell 3
    go_wp2_with fail
    refine (HA.out w1 hB1).mono ?_
    rintro e w2 ⟨rfl, hb2⟩
    have hB2 := hB1.trans (hb2.mono hB1.size)
    have bA2 := bA1.below hb2 bA1.lt
    have bB2 := bB1.below hb2 bB1.lt
    clear e0 e1 e2 e3 hb2 hB1 bA1 bB1
    have e0 : w2.cell? ⟨(w.heap.size + 1), 0, none⟩ = some (.int .i64 b.rev) := bB2.cell 0
    have e1 : w2.cell? ⟨(w.heap.size + 1), 1, none⟩ = some (.slice q1 b.jobs.length d1) := bB2.cell 1
    have e2 : w2.cell? ⟨(w.heap.size + 1), 2, none⟩ = some (.slice q2 b.nodes.length d2) := bB2.cell 2
    have e3 : w2.cell? ⟨(w.heap.size + 1), 3, none⟩ = some (.slice q3 b.leases.length d3) := bB2.cell 3
    go_wp2_with fail
    refine (HB.out w2 hB2).mono ?_
    rintro e w3 ⟨rfl, hb3⟩
    have hB3 := hB2.trans (hb3.mono hB2.size)
    have bA3 := bA2.below hb3 bA2.lt
    have bB3 := bB2.below hb3 bB2.lt
    clear e0 e1 e2 e3 hb3 hB2 bA2 bB2
    have e0 : w3.cell? ⟨w.heap.size, 0, none⟩ = some (.int .i64 a.rev) := bA3.cell 0
    have e1 : w3.cell? ⟨w.heap.size, 1, none⟩ = some (.slice p1 a.jobs.length c1) := bA3.cell 1
    have e2 : w3.cell? ⟨w.heap.size, 2, none⟩ = some (.slice p2 a.nodes.length c2) := bA3.cell 2
    have e3 : w3.cell? ⟨w.heap.size, 3, none⟩ = some (.slice p3 a.leases.length c3) := bA3.cell 3
    have f0 : w3.cell? ⟨(w.heap.size + 1), 0, none⟩ = some (.int .i64 b.rev) := bB3.cell 0
    have f1 : w3.cell? ⟨(w.heap.size + 1), 1, none⟩ = some (.slice q1 b.jobs.length d1) := bB3.cell 1
    have f2 : w3.cell? ⟨(w.heap.size + 1), 2, none⟩ = some (.slice q2 b.nodes.length d2) := bB3.cell 2
    have f3 : w3.cell? ⟨(w.heap.size + 1), 3, none⟩ = some (.slice q3 b.leases.length d3) := bB3.cell 3
    go_wp2_with fail
    go_ret
    exact ⟨rfl, hB3⟩

theorem own : ownKnob Tryd.prog.godebug = none := by kernel_rfl
theorem laid : laidOutB Tryd.prog = true := by kernel_rfl
set_option maxRecDepth 100000 in
theorem contract (H : Type) (enc : TypeId × Value → H) (W : World) (base : Nat) (args : Array Value) (ds gs : List (DataW H)) (before : List MemPlace)
    (hval0 : ∀ (j : Nat) t v, Tryd.f5.params[j]? = some t → args[j]? = some v → Value.okWide Tryd.prog W .any base t v)
    (hW : DataW.Whole enc Tryd.prog Tryd.f5.params.toList Rows.wireOneSpec.vars false W args.toList ds gs before)
    (hsz0 : (DataW.weightsEach Tryd.prog (Tryd.f5.params.toList ++ Rows.wireOneSpec.plain.varTypes Tryd.prog) (ds ++ gs)).all (· ≤ reachBytes) = true)
    (hT : Tabs W) :
    Calls Tryd.prog 5 args W fun e W' => ∃ v, e = .returned v ∧ Rows.wireOneSpec.post enc Tryd.prog Tryd.f5 false true false false W args v W' := by
  have hval : ∀ (j : Nat) t v, Tryd.f5.params[j]? = some t → args[j]? = some v → Value.okWide Tryd.prog W .any base t v := hval0
  have hsz : (DataW.weightsEach Tryd.prog (Tryd.f5.params.toList ++ Rows.wireOneSpec.plain.varTypes Tryd.prog) (ds ++ gs)).all (· ≤ reachBytes) = true := hsz0
  have hlt : ∀ x ∈ before, x.block < W.heap.size := fun x hx => hW.lt x hx
  have hW' := hW
  obtain ⟨p, q, hA0, hV, rfl, hfz, hnd⟩ := hW
  have hA : DataW.TrodAll enc Tryd.prog W 0 (fun _ => true) true Tryd.f5.params.toList args.toList ds p := hA0
  rw [Tryd.params5] at hA hval hsz
  obtain ⟨v0, vs0, d0, ds0, p0, q0, hargs, rfl, rfl, h0, r0⟩ := trodAll_cons hA
  obtain ⟨v1, vs1, d1, ds1, p1, q1, rfl, rfl, rfl, h1, r1⟩ := trodAll_cons r0
  obtain ⟨v2, vs2, d2, ds2, p2, q2, rfl, rfl, rfl, h2, r2⟩ := trodAll_cons r1
  obtain ⟨rfl, rfl, rfl⟩ := trodAll_nil r2
  obtain rfl : args = #[v0, v1, v2] := by cases args; simp_all
  obtain ⟨rfl, rfl⟩ := trodVars_none hV
  obtain ⟨s0, pj0, pn0, pl0, cj0, cn0, cl0, rfl, hm0, hk0⟩ := open_state (hval 0 26 v0 rfl rfl) h0 hsz (j := 0) rfl rfl
  obtain ⟨s1, pj1, pn1, pl1, cj1, cn1, cl1, rfl, hm1, hk1⟩ := open_state (hval 1 26 v1 rfl rfl) h1 hsz (j := 1) rfl rfl
  obtain ⟨a2, rfl, rfl, rfl, w2⟩ := open_int Tryd.underlying3 (hval 2 3 v2 rfl rfl) h2
  have b2 := bounds_i64 w2
  refine (walk s0 pj0 pn0 pl0 cj0 cn0 cl0 W hm0 hk0 s1 pj1 pn1 pl1 cj1 cn1 cl1 hm1 hk1 a2 b2.1 b2.2 hT).mono fun e W' ⟨he, hb⟩ => ?_
  subst he
  exact ⟨_, rfl, law_post laid (by kernel_rfl) Tryd.underlying4 rfl rfl hW' rfl rfl rfl rfl hb⟩

theorem reads (os : Os) {H : Type} (enc : TypeId × Value → H) : ∃ places, DataW.whole enc Tryd.prog ((laidWorld os).forCall (fun _ _ => 0) ⟨#[], #[.agg #[.int .i64 0, .slice none 0 0, .slice none 0 0, .slice none 0 0], .agg #[.int .i64 0, .slice none 0 0, .slice none 0 0, .slice none 0 0], .int .i64 0], []⟩).memory Tryd.f5.params.toList Rows.wireOneSpec.vars false (#[.agg #[.int .i64 0, .slice none 0 0, .slice none 0 0, .slice none 0 0], .agg #[.int .i64 0, .slice none 0 0, .slice none 0 0, .slice none 0 0], .int .i64 0] : Array Value).toList 8 = some ([.agg [.lit (.int .i64 0), .nil, .nil, .nil], .agg [.lit (.int .i64 0), .nil, .nil, .nil], .lit (.int .i64 0)], [], places) :=
  ⟨[], by kernel_rfl⟩
set_option maxRecDepth 100000 in
theorem lifted (os : Os) (started : os.Started) (H : Type) (enc : TypeId × Value → H) (F : Stop.Interp) :
    ReturnsInHanded {} Tryd.checked os 5 .any ((OpenSpec.ofChange Rows.wireOneSpec).preRow enc Tryd.prog Tryd.f5 Rows.wireOneRow.domain false Rows.wireOneRow.laid) (((OpenSpec.ofChange Rows.wireOneSpec).at F).post enc Tryd.prog Tryd.f5 false true false false) := by
  obtain ⟨places, hx⟩ := reads os enc
  refine returnsInHanded_of_row (C := Tryd.checked) (s := (OpenSpec.ofChange Rows.wireOneSpec)) own started (by kernel_rfl) Tryd.func5
    (witness_row_atRef (enc := enc) (C := Tryd.checked) false (laidWorld os) #[.agg #[.int .i64 0, .slice none 0 0, .slice none 0 0, .slice none 0 0], .agg #[.int .i64 0, .slice none 0 0, .slice none 0 0, .slice none 0 0], .int .i64 0] rfl (by kernel_rfl) (by kernel_rfl) (by kernel_rfl)
      (OpenSpec.preRow_of_cond 8 hx (by kernel_rfl) (fun k hk => by cases hk) (by kernel_rfl) (laid_met os _))) ?_
  intro W base args ds gs before hval0 hW _ hcond hsz0 hL _ _
  exact contract H enc W base args ds gs before hval0 hW hsz0 (tabs_of_laid hL)

theorem said : Rows.WireOneSaid :=
  OpenClaim.holds_of_cond 5 Tryd.f5 rfl rfl rfl rfl rfl rfl rfl ⟨rfl, rfl, rfl, rfl, rfl⟩ rfl rfl rfl rfl rfl (by kernel_rfl) Tryd.func5 (by kernel_rfl)
    (of_decide_eq_true (by kernel_rfl)) (by unfold Func.isWrapper; first | (rw [if_pos (by decide +kernel)]; kernel_rfl) | (rw [if_neg (by decide +kernel)]; exact ⟨rfl, rfl⟩))
    (fun os started H enc _ F => by rw [OpenClaim.pre_eq_preRow]; exact lifted os started H enc F)

/-- No parameter wants a stand-in; the program's own looks are off. -/
theorem plain (f : FuncId) (fn : Func) (hf : Tryd.pinned.checked.prog.funcNamed "bracken/brackenkeep.WireOne" = some f) (hfn : Tryd.pinned.checked.prog.funcs[f]? = some fn) :
    false = Tryd.pinned.checked.prog.looks [] ∧ ∀ (j : Nat) t, fn.params[j]? = some t → Tryd.pinned.checked.prog.wantsStandIn t = false := by
  obtain rfl : f = 5 := Option.some.inj ((show Tryd.prog.funcNamed "bracken/brackenkeep.WireOne" = some 5 by kernel_rfl).symm.trans hf) |>.symm
  obtain rfl : fn = Tryd.f5 := (Option.some.inj (Tryd.func5.symm.trans hfn)).symm
  refine ⟨by kernel_rfl, fun j t ht => ?_⟩
  rw [Tryd.params5] at ht
  have hm := Array.mem_of_getElem? ht
  have hall : (#[26, 26, 3] : Array TypeId).all (fun t => !Tryd.prog.wantsStandIn t) = true := by kernel_rfl
  have := Array.all_eq_true_iff_forall_mem.1 hall t (by simpa using hm)
  show Tryd.prog.wantsStandIn t = false
  simpa using this

/-- The statement. -/
theorem proved : Rows.WireOneCardSaid :=
  Claim7.holds_tied_plain_at .later [] _ _ _ _ said (fun _ h => by cases h) (by kernel_rfl) (fun _ h => by cases h) wireOne_row_tie rfl ⟨rfl, rfl⟩ (by kernel_rfl) rfl plain (by kernel_rfl)
#print axioms proved
end Go.Proofs.YtejdhcipmkaboaaDoor.wireOne
