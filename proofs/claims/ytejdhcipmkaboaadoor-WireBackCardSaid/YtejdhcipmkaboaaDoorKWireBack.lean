/-
  The law WireBack of package brackenkeep: for every input it answers true.
-/
import Derived.Test.YtejdhcipmkaboaaDoorRows
import Derived.Test.YtejdhcipmkaboaaDoorPkBase
import Derived.Test.YtejdhcipmkaboaaDoorPkEnc
import Derived.Test.YtejdhcipmkaboaaDoorPkWired
import Derived.Test.YtejdhcipmkaboaaDoorPkStateB
set_option linter.unusedVariables false
set_option linter.unusedSimpArgs false
namespace Go.Proofs.YtejdhcipmkaboaaDoor.wireBack
open Go.ChangeShapes Go.WideShapes Go.ChangeAt Go.RowKit Go.Joins
open Go.ChangeMaps (open_string)
set_option maxHeartbeats 8000000 in
set_option maxRecDepth 100000 in
theorem walk (s : St) (p1 p2 p3 : Option Addr) (c1 c2 c3 : Nat) (w : World) (hm : StM w w.heap.size p1 p2 p3 s) (hk : StOk s) (b : ByteArray) (hbs : b.size ≤ 140737488351232) (n : Int) (n1 : -9223372036854775808 ≤ n) (n2 : n ≤ 9223372036854775807) (hT : Tabs w) :
    Calls Tryd.prog 3 #[.agg #[.int .i64 s.rev, .slice p1 s.jobs.length c1, .slice p2 s.nodes.length c2, .slice p3 s.leases.length c3], .string b, .int .i64 n] w fun e w' => e = .returned (.bool true) ∧ Below w.heap.size w w' := by
  have hb0 : Below w.heap.size w (w.alloc (.cells #[Value.int .i64 s.rev, Value.slice p1 s.jobs.length c1, Value.slice p2 s.nodes.length c2, Value.slice p3 s.leases.length c3] 26)) := (Below.refl _ _).alloc (Nat.le_refl _) _
  have bx0 := Blk.new w 26 #[Value.int .i64 s.rev, Value.slice p1 s.jobs.length c1, Value.slice p2 s.nodes.length c2, Value.slice p3 s.leases.length c3]
  have hz := hk.sz
  have h30 := Int.emod_nonneg n (show (3 : Int) ≠ 0 by decide)
  have h33 := Int.emod_lt_of_pos n (show (0 : Int) < 3 by decide)
  have HR := Lib.hid (fun (W : World) => rest_any n 3 W (by decide) (by decide))
  generalize n % 3 = m at *
  have HE := Lib.hid (fun (W : World) (hW : Below w.heap.size w W) => encode_state s (m + 1) p1 p2 p3 c1 c2 c3 W ((hm.below hW).more hW.size) hz (hT.below hW))
  have HM := Lib.hid hm
  have HZ := Lib.hid hz
  have HT := Lib.hid hT
  have HV : Hid (1 ≤ m + 1 ∧ m + 1 ≤ 3) := Lib.hid ⟨by omega, by omega⟩
  clear hT hm hz hk n1 n2
  by_cases hE : (encR (m + 1) s).2 = 0
  · obtain ⟨h1, h2, h3, _⟩ := encR_ok hE
    have hd := decT_enc h2 h3 HV.out
    have hl := encS_len h2
    have he := HE.out
    rw [h1] at he
    have HE2 := Lib.hid he
    have HD := Lib.hid hd
    generalize encS (m + 1) s = out at *
    clear h1 h2 h3 hE HE he hd
    go_enter Tryd.func3, Tryd.ntmps3
    go_wp2_with fail
    generalize w.alloc _ = W0 at *
    refine (wired_any W0 (HT.out.below hb0)).mono ?_
    rintro e w1 ⟨rfl, hb1⟩
    have hB1 := hb0.trans (hb1.mono hb0.size)
    have bx1 := bx0.below hb1 bx0.lt
    clear hb1 hb0 bx0
    go_wp2_with fail
    refine (HR.out w1).mono ?_
    rintro e w' ⟨rfl, rfl⟩
    have e0 : w1.cell? ⟨w.heap.size, 0, none⟩ = some (.int .i64 s.rev) := bx1.cell 0
    have e1 : w1.cell? ⟨w.heap.size, 1, none⟩ = some (.slice p1 s.jobs.length c1) := bx1.cell 1
    have e2 : w1.cell? ⟨w.heap.size, 2, none⟩ = some (.slice p2 s.nodes.length c2) := bx1.cell 2
    have e3 : w1.cell? ⟨w.heap.size, 3, none⟩ = some (.slice p3 s.leases.length c3) := bx1.cell 3
    go_wp2_with fail
    refine (HE2.out w1 hB1).mono ?_
    rintro e w2 ⟨rfl, hb2⟩
    have hB2 := hB1.trans (hb2.mono hB1.size)
    have bx2 := bx1.below hb2 bx1.lt
    clear hb2 hB1 bx1 e0 e1 e2 e3 HE2 HR
    go_wp2_with fail
    refine (decode_state (bstr out) (m + 1) w2 (by rw [bstr_size]; omega) (HT.out.below hB2)).mono ?_
    rintro e w3 ⟨t, er, q1, q2, q3, d1, d2, d3, rfl, hmt, _, hb3, hd⟩
    rw [bstr_list, HD.out] at hd
    injection hd with hd1 hd2
    subst hd1 hd2
    have hB3 := hB2.trans (hb3.mono hB2.size)
    have bx3 := bx2.below hb3 bx2.lt
    have hB4 := hB3.alloc hB3.size (.cells #[Value.int .i64 s.rev, Value.slice q1 s.jobs.length d1, Value.slice q2 s.nodes.length d2, Value.slice q3 s.leases.length d3] 26)
    have hb4 : Below w3.heap.size w3 (w3.alloc (.cells #[Value.int .i64 s.rev, Value.slice q1 s.jobs.length d1, Value.slice q2 s.nodes.length d2, Value.slice q3 s.leases.length d3] 26)) := (Below.refl _ _).alloc (Nat.le_refl _) _
    have bx4 := bx3.below hb4 bx3.lt
    have HS := Lib.hid (same_any s s p1 p2 p3 q1 q2 q3 c1 c2 c3 d1 d2 d3 _ ((HM.out.below hB4).more hB4.size) ((hmt.below hb4).more hb4.size) HZ.out HZ.out)
    clear hb3 hB2 bx2 hmt hb4 bx3 HD
    have e0 : (w3.alloc (.cells #[Value.int .i64 s.rev, Value.slice q1 s.jobs.length d1, Value.slice q2 s.nodes.length d2, Value.slice q3 s.leases.length d3] 26)).cell? ⟨w.heap.size, 0, none⟩ = some (.int .i64 s.rev) := bx4.cell 0
    have e1 : (w3.alloc (.cells #[Value.int .i64 s.rev, Value.slice q1 s.jobs.length d1, Value.slice q2 s.nodes.length d2, Value.slice q3 s.leases.length d3] 26)).cell? ⟨w.heap.size, 1, none⟩ = some (.slice p1 s.jobs.length c1) := bx4.cell 1
    have e2 : (w3.alloc (.cells #[Value.int .i64 s.rev, Value.slice q1 s.jobs.length d1, Value.slice q2 s.nodes.length d2, Value.slice q3 s.leases.length d3] 26)).cell? ⟨w.heap.size, 2, none⟩ = some (.slice p2 s.nodes.length c2) := bx4.cell 2
    have e3 : (w3.alloc (.cells #[Value.int .i64 s.rev, Value.slice q1 s.jobs.length d1, Value.slice q2 s.nodes.length d2, Value.slice q3 s.leases.length d3] 26)).cell? ⟨w.heap.size, 3, none⟩ = some (.slice p3 s.leases.length c3) := bx4.cell 3
    go_wp2_with fail
    generalize w3.alloc _ = W4 at *
    refine HS.out.mono ?_
    rintro e w5 ⟨rfl, hb5⟩
    have hB5 := hB4.trans (hb5.mono hB4.size)
    have bx5 := bx4.below hb5 bx4.lt
    clear e0 e1 e2 e3 HS hb5 hB4 bx4
    simp only [decide_true]
    go_wp2_with fail
    refine (decode_state b (m + 1) w5 (Nat.le_trans hbs (by decide)) (HT.out.below hB5)).mono ?_
    rintro e w6 ⟨t, f, q1, q2, q3, d1, d2, d3, rfl, hmt, _, hb6, hd⟩
    have hB6 := hB5.trans (hb6.mono hB5.size)
    have hB7 := hB6.alloc hB6.size (.cells #[Value.int .i64 t.rev, Value.slice q1 t.jobs.length d1, Value.slice q2 t.nodes.length d2, Value.slice q3 t.leases.length d3] 26)
    have hb7 : Below w6.heap.size w6 (w6.alloc (.cells #[Value.int .i64 t.rev, Value.slice q1 t.jobs.length d1, Value.slice q2 t.nodes.length d2, Value.slice q3 t.leases.length d3] 26)) := (Below.refl _ _).alloc (Nat.le_refl _) _
    have bt7 := Blk.new w6 26 #[Value.int .i64 t.rev, Value.slice q1 t.jobs.length d1, Value.slice q2 t.nodes.length d2, Value.slice q3 t.leases.length d3]
    have htz : StSz t := by have := decT_sz (v := m + 1) (l := b.data.toList); rw [hd] at this; exact this
    have hm7 := (hmt.below hb7).more hb7.size
    have hE7 := encode_state t (m + 1) q1 q2 q3 d1 d2 d3 _ hm7 htz (HT.out.below hB7)
    have HE7 := Lib.hid hE7
    have HM7 := Lib.hid hm7
    have HTZ := Lib.hid htz
    have HD7 := Lib.hid hd
    clear hE7 hm7 htz hd hmt hb7 hb6 hB6
    by_cases hf : f = 0
    · have hf1 : ((f : Int) == 0) = true := by rw [hf]; rfl
      have hf2 : ((f : Int) != 0) = false := by rw [hf]; rfl
      have hA : encR (m + 1) t = (b.data.toList, 0) := by
        have := decT_again (v := m + 1) (l := b.data.toList) (by rw [HD7.out]; exact hf)
        rwa [HD7.out] at this
      have hE7 := HE7.out
      rw [hA, bstr_self] at hE7
      have HE8 := Lib.hid hE7
      have heq : (b.toList == b.toList) = true := by simp
      clear hE7 HE7 hA hf HD7
      go_wp2_with fail
      generalize w6.alloc _ = W7 at *
      refine HE8.out.mono ?_
      rintro e w8 ⟨rfl, hb8⟩
      have hB8 := hB7.trans (hb8.mono hB7.size)
      go_wp2_with fail
      go_ret
      exact ⟨rfl, hB8⟩
    · have hf1 : ((f : Int) == 0) = false := by rw [beq_eq_false_iff_ne]; omega
      have hf2 : ((f : Int) != 0) = true := by rw [bne_iff_ne]; omega
      have ht : t = zeroSt := by
        have := decT_bad (v := m + 1) (l := b.data.toList) (by rw [HD7.out]; exact hf)
        rwa [HD7.out] at this
      subst ht
      clear hf HD7
      go_wp2_with fail
      generalize w6.alloc _ = W7 at *
      refine HE7.out.mono ?_
      rintro e w8 ⟨rfl, hb8⟩
      have hB8 := hB7.trans (hb8.mono hB7.size)
      have bt8 := bt7.below hb8 bt7.lt
      have HS := Lib.hid (same_any zeroSt zeroSt q1 q2 q3 none none none d1 d2 d3 0 0 0 w8 ((HM7.out.below hb8).more hb8.size) (stM_zero w8) zeroSt_sz zeroSt_sz)
      generalize encR (m + 1) zeroSt = ez at *
      clear hb8 bt7 HM7 HE7
      have e0 : w8.cell? ⟨w6.heap.size, 0, none⟩ = some (.int .i64 zeroSt.rev) := bt8.cell 0
      have e1 : w8.cell? ⟨w6.heap.size, 1, none⟩ = some (.slice q1 zeroSt.jobs.length d1) := bt8.cell 1
      have e2 : w8.cell? ⟨w6.heap.size, 2, none⟩ = some (.slice q2 zeroSt.nodes.length d2) := bt8.cell 2
      have e3 : w8.cell? ⟨w6.heap.size, 3, none⟩ = some (.slice q3 zeroSt.leases.length d3) := bt8.cell 3
      go_wp2_with fail
      refine HS.out.mono ?_
      rintro e w9 ⟨rfl, hb9⟩
      simp only [decide_true]
      go_wp2_with fail
      go_ret
      exact ⟨rfl, hB8.trans (hb9.mono hB8.size)⟩
  · have h1 := encR_bad hE
    have he := HE.out
    have hne : (((encR (m + 1) s).2 : Int) == 0) = false := by rw [beq_eq_false_iff_ne]; omega
    rw [h1] at he
    have HE2 := Lib.hid he
    have hcc := bnil_empty
    generalize bstr [] = cc at *
    generalize (encR (m + 1) s).2 = er at *
    clear h1 hE HE he
    go_enter Tryd.func3, Tryd.ntmps3
    go_wp2_with fail
    generalize w.alloc _ = W0 at *
    refine (wired_any W0 (HT.out.below hb0)).mono ?_
    rintro e w1 ⟨rfl, hb1⟩
    have hB1 := hb0.trans (hb1.mono hb0.size)
    have bx1 := bx0.below hb1 bx0.lt
    clear hb1 hb0 bx0
    go_wp2_with fail
    refine (HR.out w1).mono ?_
    rintro e w' ⟨rfl, rfl⟩
    have e0 : w1.cell? ⟨w.heap.size, 0, none⟩ = some (.int .i64 s.rev) := bx1.cell 0
    have e1 : w1.cell? ⟨w.heap.size, 1, none⟩ = some (.slice p1 s.jobs.length c1) := bx1.cell 1
    have e2 : w1.cell? ⟨w.heap.size, 2, none⟩ = some (.slice p2 s.nodes.length c2) := bx1.cell 2
    have e3 : w1.cell? ⟨w.heap.size, 3, none⟩ = some (.slice p3 s.leases.length c3) := bx1.cell 3
    go_wp2_with fail
    refine (HE2.out w1 hB1).mono ?_
    rintro e w5 ⟨rfl, hb2⟩
    have hB5 := hB1.trans (hb2.mono hB1.size)
    clear hb2 hB1 e0 e1 e2 e3 HE2 HR
    go_wp2_with fail
    refine (decode_state b (m + 1) w5 (Nat.le_trans hbs (by decide)) (HT.out.below hB5)).mono ?_
    rintro e w6 ⟨t, f, q1, q2, q3, d1, d2, d3, rfl, hmt, _, hb6, hd⟩
    have hB6 := hB5.trans (hb6.mono hB5.size)
    have hB7 := hB6.alloc hB6.size (.cells #[Value.int .i64 t.rev, Value.slice q1 t.jobs.length d1, Value.slice q2 t.nodes.length d2, Value.slice q3 t.leases.length d3] 26)
    have hb7 : Below w6.heap.size w6 (w6.alloc (.cells #[Value.int .i64 t.rev, Value.slice q1 t.jobs.length d1, Value.slice q2 t.nodes.length d2, Value.slice q3 t.leases.length d3] 26)) := (Below.refl _ _).alloc (Nat.le_refl _) _
    have bt7 := Blk.new w6 26 #[Value.int .i64 t.rev, Value.slice q1 t.jobs.length d1, Value.slice q2 t.nodes.length d2, Value.slice q3 t.leases.length d3]
    have htz : StSz t := by have := decT_sz (v := m + 1) (l := b.data.toList); rw [hd] at this; exact this
    have hm7 := (hmt.below hb7).more hb7.size
    have hE7 := encode_state t (m + 1) q1 q2 q3 d1 d2 d3 _ hm7 htz (HT.out.below hB7)
    have HE7 := Lib.hid hE7
    have HM7 := Lib.hid hm7
    have HTZ := Lib.hid htz
    have HD7 := Lib.hid hd
    clear hE7 hm7 htz hd hmt hb7 hb6 hB6
    by_cases hf : f = 0
    · have hf1 : ((f : Int) == 0) = true := by rw [hf]; rfl
      have hf2 : ((f : Int) != 0) = false := by rw [hf]; rfl
      have hA : encR (m + 1) t = (b.data.toList, 0) := by
        have := decT_again (v := m + 1) (l := b.data.toList) (by rw [HD7.out]; exact hf)
        rwa [HD7.out] at this
      have hE7 := HE7.out
      rw [hA, bstr_self] at hE7
      have HE8 := Lib.hid hE7
      have heq : (b.toList == b.toList) = true := by simp
      clear hE7 HE7 hA hf HD7
      go_wp2_with fail
      generalize w6.alloc _ = W7 at *
      refine HE8.out.mono ?_
      rintro e w8 ⟨rfl, hb8⟩
      have hB8 := hB7.trans (hb8.mono hB7.size)
      go_wp2_with fail
      go_ret
      exact ⟨rfl, hB8⟩
    · have hf1 : ((f : Int) == 0) = false := by rw [beq_eq_false_iff_ne]; omega
      have hf2 : ((f : Int) != 0) = true := by rw [bne_iff_ne]; omega
      have ht : t = zeroSt := by
        have := decT_bad (v := m + 1) (l := b.data.toList) (by rw [HD7.out]; exact hf)
        rwa [HD7.out] at this
      subst ht
      clear hf HD7
      go_wp2_with fail
      generalize w6.alloc _ = W7 at *
      refine HE7.out.mono ?_
      rintro e w8 ⟨rfl, hb8⟩
      have hB8 := hB7.trans (hb8.mono hB7.size)
      have bt8 := bt7.below hb8 bt7.lt
      have HS := Lib.hid (same_any zeroSt zeroSt q1 q2 q3 none none none d1 d2 d3 0 0 0 w8 ((HM7.out.below hb8).more hb8.size) (stM_zero w8) zeroSt_sz zeroSt_sz)
      generalize encR (m + 1) zeroSt = ez at *
      clear hb8 bt7 HM7 HE7
      have e0 : w8.cell? ⟨w6.heap.size, 0, none⟩ = some (.int .i64 zeroSt.rev) := bt8.cell 0
      have e1 : w8.cell? ⟨w6.heap.size, 1, none⟩ = some (.slice q1 zeroSt.jobs.length d1) := bt8.cell 1
      have e2 : w8.cell? ⟨w6.heap.size, 2, none⟩ = some (.slice q2 zeroSt.nodes.length d2) := bt8.cell 2
      have e3 : w8.cell? ⟨w6.heap.size, 3, none⟩ = some (.slice q3 zeroSt.leases.length d3) := bt8.cell 3
      go_wp2_with fail
      refine HS.out.mono ?_
      rintro e w9 ⟨rfl, hb9⟩
      simp only [decide_true]
      go_wp2_with fail
      go_ret
      exact ⟨rfl, hB8.trans (hb9.mono hB8.size)⟩

theorem own : ownKnob Tryd.prog.godebug = none := by kernel_rfl
theorem laid : laidOutB Tryd.prog = true := by kernel_rfl
set_option maxRecDepth 100000 in
theorem contract (H : Type) (enc : TypeId × Value → H) (W : World) (base : Nat) (args : Array Value) (ds gs : List (DataW H)) (before : List MemPlace)
    (hval0 : ∀ (j : Nat) t v, Tryd.f3.params[j]? = some t → args[j]? = some v → Value.okWide Tryd.prog W .any base t v)
    (hW : DataW.Whole enc Tryd.prog Tryd.f3.params.toList Rows.wireBackSpec.vars false W args.toList ds gs before)
    (hsz0 : (DataW.weightsEach Tryd.prog (Tryd.f3.params.toList ++ Rows.wireBackSpec.plain.varTypes Tryd.prog) (ds ++ gs)).all (· ≤ reachBytes) = true)
    (hT : Tabs W) :
    Calls Tryd.prog 3 args W fun e W' => ∃ v, e = .returned v ∧ Rows.wireBackSpec.post enc Tryd.prog Tryd.f3 false true false false W args v W' := by
  have hval : ∀ (j : Nat) t v, Tryd.f3.params[j]? = some t → args[j]? = some v → Value.okWide Tryd.prog W .any base t v := hval0
  have hsz : (DataW.weightsEach Tryd.prog (Tryd.f3.params.toList ++ Rows.wireBackSpec.plain.varTypes Tryd.prog) (ds ++ gs)).all (· ≤ reachBytes) = true := hsz0
  have hlt : ∀ x ∈ before, x.block < W.heap.size := fun x hx => hW.lt x hx
  have hW' := hW
  obtain ⟨p, q, hA0, hV, rfl, hfz, hnd⟩ := hW
  have hA : DataW.TrodAll enc Tryd.prog W 0 (fun _ => true) true Tryd.f3.params.toList args.toList ds p := hA0
  rw [Tryd.params3] at hA hval hsz
  obtain ⟨v0, vs0, d0, ds0, p0, q0, hargs, rfl, rfl, h0, r0⟩ := trodAll_cons hA
  obtain ⟨v1, vs1, d1, ds1, p1, q1, rfl, rfl, rfl, h1, r1⟩ := trodAll_cons r0
  obtain ⟨v2, vs2, d2, ds2, p2, q2, rfl, rfl, rfl, h2, r2⟩ := trodAll_cons r1
  obtain ⟨rfl, rfl, rfl⟩ := trodAll_nil r2
  obtain rfl : args = #[v0, v1, v2] := by cases args; simp_all
  obtain ⟨rfl, rfl⟩ := trodVars_none hV
  obtain ⟨s0, pj0, pn0, pl0, cj0, cn0, cl0, rfl, hm0, hk0⟩ := open_state (hval 0 26 v0 rfl rfl) h0 hsz (j := 0) rfl rfl
  obtain ⟨a1, rfl, rfl, rfl, w1⟩ := open_string Tryd.underlying9 (hval 1 9 v1 rfl rfl) h1
  have b1 : a1.size ≤ 140737488351232 := by have := sized_string hsz (j := 1) (t := 9) rfl rfl; simpa [reachBytes] using this
  obtain ⟨a2, rfl, rfl, rfl, w2⟩ := open_int Tryd.underlying3 (hval 2 3 v2 rfl rfl) h2
  have b2 := bounds_i64 w2
  refine (walk s0 pj0 pn0 pl0 cj0 cn0 cl0 W hm0 hk0 a1 b1 a2 b2.1 b2.2 hT).mono fun e W' ⟨he, hb⟩ => ?_
  subst he
  exact ⟨_, rfl, law_post laid (by kernel_rfl) Tryd.underlying4 rfl rfl hW' rfl rfl rfl rfl hb⟩

theorem reads (os : Os) {H : Type} (enc : TypeId × Value → H) : ∃ places, DataW.whole enc Tryd.prog ((laidWorld os).forCall (fun _ _ => 0) ⟨#[], #[.agg #[.int .i64 0, .slice none 0 0, .slice none 0 0, .slice none 0 0], .string ByteArray.empty, .int .i64 0], []⟩).memory Tryd.f3.params.toList Rows.wireBackSpec.vars false (#[.agg #[.int .i64 0, .slice none 0 0, .slice none 0 0, .slice none 0 0], .string ByteArray.empty, .int .i64 0] : Array Value).toList 8 = some ([.agg [.lit (.int .i64 0), .nil, .nil, .nil], .lit (.string []), .lit (.int .i64 0)], [], places) :=
  ⟨[], by kernel_rfl⟩
set_option maxRecDepth 100000 in
theorem lifted (os : Os) (started : os.Started) (H : Type) (enc : TypeId × Value → H) (F : Stop.Interp) :
    ReturnsInHanded {} Tryd.checked os 3 .any ((OpenSpec.ofChange Rows.wireBackSpec).preRow enc Tryd.prog Tryd.f3 Rows.wireBackRow.domain false Rows.wireBackRow.laid) (((OpenSpec.ofChange Rows.wireBackSpec).at F).post enc Tryd.prog Tryd.f3 false true false false) := by
  obtain ⟨places, hx⟩ := reads os enc
  refine returnsInHanded_of_row (C := Tryd.checked) (s := (OpenSpec.ofChange Rows.wireBackSpec)) own started (by kernel_rfl) Tryd.func3
    (witness_row_atRef (enc := enc) (C := Tryd.checked) false (laidWorld os) #[.agg #[.int .i64 0, .slice none 0 0, .slice none 0 0, .slice none 0 0], .string ByteArray.empty, .int .i64 0] rfl (by kernel_rfl) (by kernel_rfl) (by kernel_rfl)
      (OpenSpec.preRow_of_cond 8 hx (by kernel_rfl) (fun k hk => by cases hk) (by kernel_rfl) (laid_met os _))) ?_
  intro W base args ds gs before hval0 hW _ hcond hsz0 hL _ _
  exact contract H enc W base args ds gs before hval0 hW hsz0 (tabs_of_laid hL)

theorem said : Rows.WireBackSaid :=
  OpenClaim.holds_of_cond 3 Tryd.f3 rfl rfl rfl rfl rfl rfl rfl ⟨rfl, rfl, rfl, rfl, rfl⟩ rfl rfl rfl rfl rfl (by kernel_rfl) Tryd.func3 (by kernel_rfl)
    (of_decide_eq_true (by kernel_rfl)) (by unfold Func.isWrapper; first | (rw [if_pos (by decide +kernel)]; kernel_rfl) | (rw [if_neg (by decide +kernel)]; exact ⟨rfl, rfl⟩))
    (fun os started H enc _ F => by rw [OpenClaim.pre_eq_preRow]; exact lifted os started H enc F)

/-- No parameter wants a stand-in; the program's own looks are off. -/
theorem plain (f : FuncId) (fn : Func) (hf : Tryd.pinned.checked.prog.funcNamed "bracken/brackenkeep.WireBack" = some f) (hfn : Tryd.pinned.checked.prog.funcs[f]? = some fn) :
    false = Tryd.pinned.checked.prog.looks [] ∧ ∀ (j : Nat) t, fn.params[j]? = some t → Tryd.pinned.checked.prog.wantsStandIn t = false := by
  obtain rfl : f = 3 := Option.some.inj ((show Tryd.prog.funcNamed "bracken/brackenkeep.WireBack" = some 3 by kernel_rfl).symm.trans hf) |>.symm
  obtain rfl : fn = Tryd.f3 := (Option.some.inj (Tryd.func3.symm.trans hfn)).symm
  refine ⟨by kernel_rfl, fun j t ht => ?_⟩
  rw [Tryd.params3] at ht
  have hm := Array.mem_of_getElem? ht
  have hall : (#[26, 9, 3] : Array TypeId).all (fun t => !Tryd.prog.wantsStandIn t) = true := by kernel_rfl
  have := Array.all_eq_true_iff_forall_mem.1 hall t (by simpa using hm)
  show Tryd.prog.wantsStandIn t = false
  simpa using this

/-- The statement. -/
theorem proved : Rows.WireBackCardSaid :=
  Claim7.holds_tied_plain_at .later [] _ _ _ _ said (fun _ h => by cases h) (by kernel_rfl) (fun _ h => by cases h) wireBack_row_tie rfl ⟨rfl, rfl⟩ (by kernel_rfl) rfl plain (by kernel_rfl)
#print axioms proved
end Go.Proofs.YtejdhcipmkaboaaDoor.wireBack
