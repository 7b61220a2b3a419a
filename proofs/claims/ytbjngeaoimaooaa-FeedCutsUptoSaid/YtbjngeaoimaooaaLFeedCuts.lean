/-
  The law FeedCuts of package brackenkeep: for every input it answers true.
-/
import Derived.Test.YtbjngeaoimaooaaRows
import Derived.Test.YtbjngeaoimaooaaBase
import Derived.Test.YtbjngeaoimaooaaFeedB
set_option linter.unusedVariables false
set_option linter.unusedSimpArgs false
namespace Go.Proofs.Ytbjngeaoimaooaa.feedCuts
open Go.ChangeShapes Go.WideShapes Go.ChangeAt Go.RowKit Go.Joins
open Go.ChangeMaps (open_string)
set_option maxHeartbeats 2000000 in
set_option maxRecDepth 100000 in
theorem walk (s : ByteArray) (hs : s.size ≤ 1048576) (p : Option Addr) (c : Nat) (zs : List Int) (w : World) (hel : Elts w w.heap.size 1 p (zs.map rowI)) (hz : ∀ z ∈ zs, okI z) (hl : zs.length ≤ 1048576) :
    Calls Try.prog 3 #[.string s, .slice p zs.length c] w fun e w' => e = .returned (.bool true) ∧ Below w.heap.size w w' := by
  have HZ := Lib.hid hz
  clear hz
  go_enter Try.func3, Try.ntmps3
  go_wp2_with fail
  refine (fed_any _).mono ?_
  rintro e w1 ⟨rfl, hb1⟩
  have hs1 := hb1.size
  go_wp2_with fail
  refine (new_any _).mono ?_
  rintro e w2 ⟨rfl, rfl⟩
  have f0 := Blk.new w1 43 #[.string ByteArray.empty, .int .i64 0, .int .i64 0]
  have hB := hb1.alloc hb1.size (.cells #[.string ByteArray.empty, .int .i64 0, .int .i64 0] 43)
  have hz2 : (w1.alloc (.cells #[.string ByteArray.empty, .int .i64 0, .int .i64 0] 43)).heap.size = w1.heap.size + 1 := by simp
  generalize w1.alloc (.cells #[.string ByteArray.empty, .int .i64 0, .int .i64 0] 43) = w2 at *
  have hz2l : w1.heap.size + 1 ≤ w2.heap.size := by omega
  have HZ2 := Lib.hid hz2
  clear hz2
  go_wp2_with fail
  refine (new_any _).mono ?_
  rintro e w3 ⟨rfl, rfl⟩
  have g0 := Blk.new w2 43 #[.string ByteArray.empty, .int .i64 0, .int .i64 0]
  have f1 := f0.alloc (.cells #[.string ByteArray.empty, .int .i64 0, .int .i64 0] 43)
  have hB3 := hB.alloc hB.size (.cells #[.string ByteArray.empty, .int .i64 0, .int .i64 0] 43)
  have hfg : w1.heap.size ≠ w2.heap.size := by omega
  have hgz : w2.heap.size < (w2.alloc (.cells #[.string ByteArray.empty, .int .i64 0, .int .i64 0] 43)).heap.size := by simp
  generalize w2.alloc (.cells #[.string ByteArray.empty, .int .i64 0, .int .i64 0] 43) = w3 at *
  generalize hgg : w2.heap.size = gB at *
  generalize hff : w1.heap.size = fB at *
  clear hff hgg f0 hB hb1 w1 w2
  rw [← stF_nil] at g0 f1
  go_wp2_with fail
  refine (push_next fB [] s w3 f1 (by simp; omega)).mono ?_
  rintro e w4 ⟨a1, c1, outs, rfl, he1, hne1, hout, f2, ha⟩
  rw [List.nil_append] at hout f2
  rw [List.nil_append]
  have hout2 : outs = (feedF s.data.toList).out := by rw [feedF_nil0] at hout; simpa using hout
  have HO := Lib.hid hout2
  have g1 := g0.asd ha (Ne.symm hfg)
  have hw3 : w.heap.size ≤ fB := by have := hs1; omega
  have hB4 := hB3.trans (ha.toBelow hw3 hB3.size)
  have hs4 := ha.size
  clear hout hout2 f1 ha hB3
  go_wp2_with fail
  refine (cut_any s p c zs w4 ((hel.below hB4).more hB4.size) HZ.out (by omega) (by omega)).mono ?_
  rintro e w5 ⟨q5, c5, ps, rfl, hps, hfl, hpl, hb5⟩
  have hB5 := hB4.trans (hb5.mono hB4.size)
  have hlt4 : gB < w4.heap.size := by omega
  have hpe := hps.elts
  have hpne := own_ne hps hlt4
  have he2 := he1.below hb5
  have f3 := f2.below hb5 f2.lt
  have g2 := g1.below hb5 g1.lt
  have hfl2 : flatS ps = s.data.toList := hfl
  have HF := Lib.hid hfl2
  have hs5 := hb5.size
  clear hps hfl hfl2 he1 f2 g1 hb5 hB4
  go_wp2_with fail
  go_loopw [9, 10, 29] (fun v h i wr => ∃ (k : Nat) (acc : List Fr), k ≤ ps.length ∧ i = .int .i64 k ∧ h = .int .i64 (errF (flatS (ps.take k)) : Int) ∧ OwnF wr w5.heap.size v acc ∧ Hid (acc = (feedF (flatS (ps.take k))).out) ∧ Blk wr gB 43 (stF (flatS (ps.take k))) ∧ Asd w5 gB wr) (fun _ _ i _ => ps.length - (intOf i).toNat)
  case atStart => exact ⟨0, [], Nat.zero_le _, rfl, by rw [List.take_zero]; show _ = Value.int _ ((errF [] : Nat) : Int); rw [errF_nil]; rfl, World.ownsRow_nil _ _ _ _, by rw [List.take_zero]; show [] = (feedF []).out; rw [feedF_nil0], by rw [List.take_zero]; exact g2, Asd.refl _ _⟩
  case round =>
    obtain ⟨k, acc, hk, rfl, rfl, hown, HA, hg, har⟩ := hrel
    by_cases hlt : k < ps.length
    · have hx : ps[k]? = some ps[k] := List.getElem?_eq_getElem hlt
      have hft := flatS_take ps k _ hx
      have hfl1 := flatS_len ps (k + 1)
      rw [HF.out] at hfl1
      generalize ps[k] = x at *
      obtain ⟨b, rfl, hbb, c0⟩ := ((hpe.more (Nat.le_refl _)).asd (Nat.le_refl _) har hpne).cell1 (f := Value.string) hx
      have hxl : (flatS (ps.take k)).length + x.size ≤ s.size := by
        rw [hft, List.length_append] at hfl1
        simpa using hfl1
      have HT := Lib.hid hft
      clear hx hft hfl1
      go_wp2_with fail
      refine (push_next gB (flatS (ps.take k)) x _ hg (by omega)).mono ?_
      rintro e w6 ⟨a6, c6, outs6, rfl, he6, hne6, hout6, g6, ha6⟩
      rw [← HA.out] at hout6
      have HO6 := Lib.hid hout6
      have hown6 : OwnF w6 w5.heap.size _ acc := hown.asd ha6 (fun h0 => by have := (World.ownsRow.lt hown _ h0).1; omega)
      have har6 : Asd w5 gB w6 := har.trans ha6
      have hal : acc.length + outs6.length ≤ 4398046511104 := by
        have h := congrArg List.length hout6
        rw [List.length_append] at h
        have h2 := feedF_le (flatS (ps.take k) ++ x.data.toList)
        rw [List.length_append] at h2
        have h3 : x.data.toList.length = x.size := by simp
        omega
      have hgs5 : gB < w5.heap.size := by omega
      clear hout6 hown ha6 har hg c0
      go_wp2_with (at_builtin; refine wpList_append_frs rfl _ _ rfl w5.heap.size _ acc rfl hown6 a6 c6 _ outs6 rfl he6 hal har6.size ?_)
      intro v7 w7 ho7 hb7
      have g7 := g6.below hb7 hgs5
      have har7 := har6.below hb7 (Nat.le_refl _)
      clear hown6 he6 hne6 g6 har6 hb7
      go_wp2_with fail
      go_roundw
      case rel =>
        refine ⟨k + 1, acc ++ outs6, by omega, by go_num, by rw [HT.out], ho7, ?_, by rw [HT.out]; exact g7, har7⟩
        show _ = _
        rw [HT.out]; exact HO6.out
      case measure => simp [intOf]; omega
    · obtain rfl : k = ps.length := by omega
      have hT : flatS (ps.take ps.length) = s.data.toList := by rw [List.take_length]; exact HF.out
      have hacc := HA.out
      rw [hT] at hacc hg
      rw [hT]
      obtain rfl : acc = outs := by rw [hacc, HO.out]
      have hol : acc.length ≤ 4611686018427387904 := by
        rw [hacc]
        have := feedF_le s.data.toList
        have h3 : s.data.toList.length = s.size := by simp
        omega
      clear hacc hT HA HO
      have hgs5 : gB < w5.heap.size := by omega
      have f4 := f3.asd har hfg
      have he3 := (he2.asd hs5 har (fun ad h0 => by have := hne1 ad h0; omega)).more (Nat.le_trans hs5 har.size)
      obtain ⟨pb, qb, rfl⟩ := hown.form
      have heb := hown.elts
      have hgb := hg
      have hB6 := hB5.trans (har.toBelow (by omega) hB5.size)
      clear hown hg he2 har hpe hpne g2 f3
      go_wp2_with fail
      refine (eqFr_same a1 pb c1 qb acc _ he3 heb hol).mono ?_
      rintro e w7 ⟨rfl, hb7⟩
      have f7 := f4.below hb7 f4.lt
      have g7 := hgb.below hb7 hgb.lt
      have hB7 := hB6.trans (hb7.mono hB6.size)
      clear f4 hgb he3 heb hb7
      go_wp2_with fail
      refine (at_st fB _ _ f7).mono ?_
      rintro e w8 ⟨rfl, rfl⟩
      go_wp2_with fail
      refine (at_st gB _ _ g7).mono ?_
      rintro e w8 ⟨rfl, rfl⟩
      go_wp2_with fail
      refine (left_st fB _ _ f7).mono ?_
      rintro e w8 ⟨rfl, rfl⟩
      go_wp2_with fail
      refine (left_st gB _ _ g7).mono ?_
      rintro e w8 ⟨rfl, rfl⟩
      go_wp2_with fail
      go_ret
      exact ⟨rfl, hB7⟩

theorem own : ownKnob Try.prog.godebug = none := by kernel_rfl
theorem laid : laidOutB Try.prog = true := by kernel_rfl
set_option maxRecDepth 100000 in
theorem contract (H : Type) (enc : TypeId × Value → H) (W : World) (base : Nat) (args : Array Value) (ds gs : List (DataW H)) (before : List MemPlace)
    (hval0 : ∀ (j : Nat) t v, Try.f3.params[j]? = some t → args[j]? = some v → Value.okWide Try.prog W .any base t v)
    (hW : DataW.Whole enc Try.prog Try.f3.params.toList Rows.feedCutsSpec.vars false W args.toList ds gs before)
    (hsz0 : (DataW.weightsEach Try.prog (Try.f3.params.toList ++ Rows.feedCutsSpec.plain.varTypes Try.prog) (ds ++ gs)).all (· ≤ reachBytes) = true)
    (hk : Rows.uptoSmall H (ds ++ gs) = true) :
    Calls Try.prog 3 args W fun e W' => ∃ v, e = .returned v ∧ Rows.feedCutsSpec.post enc Try.prog Try.f3 false true false false W args v W' := by
  have hval : ∀ (j : Nat) t v, Try.f3.params[j]? = some t → args[j]? = some v → Value.okWide Try.prog W .any base t v := hval0
  have hsz : (DataW.weightsEach Try.prog (Try.f3.params.toList ++ Rows.feedCutsSpec.plain.varTypes Try.prog) (ds ++ gs)).all (· ≤ reachBytes) = true := hsz0
  have hlt : ∀ x ∈ before, x.block < W.heap.size := fun x hx => hW.lt x hx
  have hW' := hW
  obtain ⟨p, q, hA0, hV, rfl, hfz, hnd⟩ := hW
  have hA : DataW.TrodAll enc Try.prog W 0 (fun _ => true) true Try.f3.params.toList args.toList ds p := hA0
  rw [Try.params3] at hA hval hsz
  obtain ⟨v0, vs0, d0, ds0, p0, q0, hargs, rfl, rfl, h0, r0⟩ := trodAll_cons hA
  obtain ⟨v1, vs1, d1, ds1, p1, q1, rfl, rfl, rfl, h1, r1⟩ := trodAll_cons r0
  obtain ⟨rfl, rfl, rfl⟩ := trodAll_nil r1
  obtain rfl : args = #[v0, v1] := by cases args; simp_all
  obtain ⟨rfl, rfl⟩ := trodVars_none hV
  obtain ⟨a0, rfl, rfl, rfl, w0⟩ := open_string Try.underlying9 (hval 0 9 v0 rfl rfl) h0
  have b0 : a0.size ≤ 140737488351232 := by have := sized_string hsz (j := 0) (t := 9) rfl rfl; simpa [reachBytes] using this
  obtain ⟨p1, c1, l1, rfl, hlc1, hcm1, hel1, hok1, hd1⟩ := open_rows rowI datI okI 1 Try.underlying22 (by kernel_rfl) (by decide) (hval 1 22 v1 rfl rfl) h1 (fun n cs d pl => elem_I n cs d pl)
  have hB := of_decide_eq_true hk
  simp only [List.append_nil, List.cons_append, List.nil_append, Rows.uptoBulkAll, Rows.uptoBulk] at hB
  have u0 : a0.size ≤ 1048576 := by have hl : a0.data.toList.length = a0.size := (by simp); omega
  have u1 : l1.length ≤ 1048576 := by have := rows_bulk hd1; omega
  refine (walk a0 u0 p1 c1 l1 W hel1 hok1 u1).mono fun e W' ⟨he, hb⟩ => ?_
  subst he
  exact ⟨_, rfl, law_post laid (by kernel_rfl) Try.underlying4 rfl rfl hW' rfl rfl rfl rfl hb⟩

set_option maxRecDepth 100000 in
theorem lifted (os : Os) (started : os.Started) (H : Type) (enc : TypeId × Value → H) (F : Stop.Interp) :
    ReturnsInHanded {} Try.checked os 3 .any ((Rows.OpenSpec.upto Rows.feedCutsSpec).pre6 enc Try.prog Try.f3 Rows.feedCutsUptoRow.domain false) (((Rows.OpenSpec.upto Rows.feedCutsSpec).at F).post enc Try.prog Try.f3 false true false false) := by
  refine returnsInHanded_of_cond_sized (C := Try.checked) (s := Rows.OpenSpec.upto Rows.feedCutsSpec) (k := Rows.uptoSmall) rfl own started (by kernel_rfl) Try.func3
    (OpenSpec.witness (enc := enc) (C := Try.checked) (s := Rows.OpenSpec.upto Rows.feedCutsSpec) (k := Rows.uptoSmall) rfl false ⟨#[], #[.string ByteArray.empty, .slice none 0 0], []⟩ 8 (by kernel_rfl) (by kernel_rfl) (by kernel_rfl)
      (x := ([.lit (.string []), .nil], [], [])) (by kernel_rfl) rfl (by kernel_rfl)) ?_
  intro W base args ds gs before hval0 hW _ hk hsz0 _
  exact contract H enc W base args ds gs before hval0 hW hsz0 hk

theorem over : Rows.feedCutsUptoRow.holds Try.pinned (Rows.OpenSpec.upto Rows.feedCutsSpec) :=
  OpenClaim.holds_of_cond 3 Try.f3 rfl rfl rfl rfl rfl rfl rfl ⟨rfl, rfl, rfl, rfl, rfl⟩ rfl rfl rfl rfl rfl (by kernel_rfl) Try.func3 (by kernel_rfl)
    (of_decide_eq_true (by kernel_rfl)) (by unfold Func.isWrapper; first | (rw [if_pos (by decide +kernel)]; kernel_rfl) | (rw [if_neg (by decide +kernel)]; exact ⟨rfl, rfl⟩))
    (fun os started H enc _ F => lifted os started H enc F)

/-- The statement. -/
theorem proved : Rows.FeedCutsUptoSaid := over
#print axioms proved
end Go.Proofs.Ytbjngeaoimaooaa.feedCuts
