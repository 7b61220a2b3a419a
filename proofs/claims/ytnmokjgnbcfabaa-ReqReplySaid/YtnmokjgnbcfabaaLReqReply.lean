/-
  The law ReqReply of package brackenkeep: for every input it answers true.
-/
import Derived.Test.YtnmokjgnbcfabaaRows
import Derived.Test.YtnmokjgnbcfabaaBase
import Derived.Test.YtnmokjgnbcfabaaAskR
import Derived.Test.YtnmokjgnbcfabaaReplyD
import Derived.Test.YtnmokjgnbcfabaaLoadW
import Derived.IntWalk
set_option linter.unusedVariables false
set_option linter.unusedSimpArgs false
namespace Go.Proofs.Ytnmokjgnbcfabaa.reqReply
open Go.ChangeShapes Go.WideShapes Go.ChangeAt Go.RowKit Go.Joins
open Go.ChangeMaps (open_string)
set_option maxHeartbeats 8000000 in
set_option maxRecDepth 100000 in
theorem walk (c v : Int) (b : ByteArray) (hbs : b.size ≤ 140737488351232) (w : World) :
    Calls Try.prog 7 #[.agg #[Value.int .i64 c, Value.int .i64 v], .string b] w fun e w' => e = .returned (.bool true) ∧ Below w.heap.size w w' := by
  have hzd := zero_reply_lit
  have hb0 : Below w.heap.size w (w.alloc (.cells #[Value.int .i64 c, Value.int .i64 v] 42)) := (Below.refl _ _).alloc (Nat.le_refl _) _
  have bx0 := Blk.new w 42 #[Value.int .i64 c, Value.int .i64 v]
  have z0 : (((0 : Nat) : Int) != 0) = false := rfl
  have z1 : (((0 : Nat) : Int) == 0) = true := rfl
  have z2 : (((1 : Nat) : Int) == 0) = false := rfl
  have HC := Lib.hid (show encPR c v = if replyOk c v = true then (encP c v, 0) else ([], 1) from rfl)
  have HR := Lib.hid (fun (W : World) => reply_any c v W)
  cases hr : replyOk c v
  · have hE := HR.out
    rw [show encPR c v = ([], 1) from by rw [HC.out, hr]; rfl] at hE
    have HE := Lib.hid hE
    have hemp : ((bstr []).toList == (ByteArray.mk #[]).toList) = true := by rw [show bstr [] = ByteArray.mk #[] from rfl]; simp
    have hemp3 : (bstr []).toList.isEmpty = true := by rw [bstr_toList]; rfl
    have hemp2 : ((bstr []).toList != (ByteArray.mk #[]).toList) = false := by rw [show bstr [] = ByteArray.mk #[] from rfl]; simp
    clear hE hr HR HC
    go_enter Try.func7, Try.ntmps7
    go_wp2_with fail
    generalize w.alloc _ = W0 at *
    refine (asked_any W0).mono ?_
    rintro e w1 ⟨rfl, hb1⟩
    have hB1 := hb0.trans (hb1.mono hb0.size)
    have bx1 := bx0.below hb1 bx0.lt
    have x0 : w1.cell? ⟨w.heap.size, 0, none⟩ = some (.int .i64 c) := bx1.cell 0
    have x1 : w1.cell? ⟨w.heap.size, 1, none⟩ = some (.int .i64 v) := bx1.cell 1
    clear hb1 hb0 bx0
    go_wp2_with fail
    refine (HE.out w1).mono ?_
    rintro e w2 ⟨rfl, hb2⟩
    have hB2 := hB1.trans (hb2.mono hB1.size)
    have bx2 := bx1.below hb2 bx1.lt
    clear hb2 hB1 bx1 x0 x1
    go_wp2_with fail
    refine (readReply_any b w2).mono ?_
    rintro e wa ⟨rfl, hba⟩
    have hBa := hB2.trans (hba.mono hB2.size)
    clear hba
    have hok := decPR_ok (l := b.data.toList)
    have hbad := decPR_bad (l := b.data.toList)
    generalize decPR b.data.toList = rr at hok hbad ⊢
    obtain ⟨x1, x2, f⟩ := rr
    try simp only [] at hok hbad
    have bt := Blk.new wa 42 #[Value.int .i64 x1, Value.int .i64 x2]
    have hBb := hBa.alloc hBa.size (.cells #[Value.int .i64 x1, Value.int .i64 x2] 42)
    have y0 : (wa.alloc (.cells #[Value.int .i64 x1, Value.int .i64 x2] 42)).cell? ⟨wa.heap.size, 0, none⟩ = some (.int .i64 x1) := bt.cell 0
    have y1 : (wa.alloc (.cells #[Value.int .i64 x1, Value.int .i64 x2] 42)).cell? ⟨wa.heap.size, 1, none⟩ = some (.int .i64 x2) := bt.cell 1
    have HY := Lib.hid (reply_any x1 x2 (wa.alloc (.cells #[Value.int .i64 x1, Value.int .i64 x2] 42)))
    by_cases hf : f = 0
    · have hf1 : ((f : Int) == 0) = true := by rw [hf]; rfl
      have hf2 : ((f : Int) != 0) = false := by rw [hf]; rfl
      have hA := HY.out
      rw [hok hf, bstr_self] at hA
      have HA := Lib.hid hA
      have heq : (b.toList == b.toList) = true := by simp
      clear hA HY hf hok hbad
      go_wp2_with (first | (refine wpList_store_new rfl _ _ _ rfl rfl _ _ #[Value.int .i64 x1, Value.int .i64 x2] rfl reply_size rfl (one_r2 _ _) ?_))
      refine HA.out.mono ?_
      rintro e wb ⟨rfl, hbb⟩
      have hBc := hBb.trans (hbb.mono hBb.size)
      have bt2 := bt.below hbb bt.lt
      have y3 : wb.cell? ⟨wa.heap.size, 0, none⟩ = some (.int .i64 x1) := bt2.cell 0
      have y4 : wb.cell? ⟨wa.heap.size, 1, none⟩ = some (.int .i64 x2) := bt2.cell 1
      clear y0 y1 hbb
      go_wp2_with fail
      go_ret
      exact ⟨rfl, hBc⟩
    · have hf1 : ((f : Int) == 0) = false := by rw [beq_eq_false_iff_ne]; omega
      have hf2 : ((f : Int) != 0) = true := by rw [bne_iff_ne]; omega
      obtain ⟨rfl, rfl⟩ := hbad hf
      clear hf hok hbad
      go_wp2_with (first | (refine wpList_store_new rfl _ _ _ rfl rfl _ _ #[Value.int .i64 0, Value.int .i64 0] rfl reply_size rfl (one_r2 _ _) ?_))
      refine HY.out.mono ?_
      rintro e wb ⟨rfl, hbb⟩
      have hBc := hBb.trans (hbb.mono hBb.size)
      have bt2 := bt.below hbb bt.lt
      have y3 : wb.cell? ⟨wa.heap.size, 0, none⟩ = some (.int .i64 0) := bt2.cell 0
      have y4 : wb.cell? ⟨wa.heap.size, 1, none⟩ = some (.int .i64 0) := bt2.cell 1
      clear y0 y1 hbb
      go_wp2_with fail
      go_ret
      exact ⟨rfl, hBc⟩
  · have hE := HR.out
    rw [show encPR c v = (encP c v, 0) from by rw [HC.out, hr]; rfl] at hE
    have HE := Lib.hid hE
    have hd := decPR_enc hr
    have HD := Lib.hid hd
    generalize encP c v = out at *
    clear hE hr HR HC hd
    go_enter Try.func7, Try.ntmps7
    go_wp2_with fail
    generalize w.alloc _ = W0 at *
    refine (asked_any W0).mono ?_
    rintro e w1 ⟨rfl, hb1⟩
    have hB1 := hb0.trans (hb1.mono hb0.size)
    have bx1 := bx0.below hb1 bx0.lt
    have x0 : w1.cell? ⟨w.heap.size, 0, none⟩ = some (.int .i64 c) := bx1.cell 0
    have x1 : w1.cell? ⟨w.heap.size, 1, none⟩ = some (.int .i64 v) := bx1.cell 1
    clear hb1 hb0 bx0
    go_wp2_with fail
    refine (HE.out w1).mono ?_
    rintro e w2 ⟨rfl, hb2⟩
    have hB2 := hB1.trans (hb2.mono hB1.size)
    have bx2 := bx1.below hb2 bx1.lt
    clear hb2 hB1 bx1 x0 x1
    go_wp2_with fail
    refine (readReply_any (bstr out) w2).mono ?_
    rintro e w3 h3
    rw [bstr_list, HD.out] at h3
    obtain ⟨rfl, hb3⟩ := h3
    have hB3 := hB2.trans (hb3.mono hB2.size)
    have bx3 := bx2.below hb3 bx2.lt
    have hB4 := hB3.alloc hB3.size (.cells #[Value.int .i64 c, Value.int .i64 v] 42)
    have bx4 := bx3.alloc (.cells #[Value.int .i64 c, Value.int .i64 v] 42)
    have bd4 := Blk.new w3 42 #[Value.int .i64 c, Value.int .i64 v]
    have x0 : (w3.alloc (.cells #[Value.int .i64 c, Value.int .i64 v] 42)).cell? ⟨w.heap.size, 0, none⟩ = some (.int .i64 c) := bx4.cell 0
    have x1 : (w3.alloc (.cells #[Value.int .i64 c, Value.int .i64 v] 42)).cell? ⟨w.heap.size, 1, none⟩ = some (.int .i64 v) := bx4.cell 1
    have y0 : (w3.alloc (.cells #[Value.int .i64 c, Value.int .i64 v] 42)).cell? ⟨w3.heap.size, 0, none⟩ = some (.int .i64 c) := bd4.cell 0
    have y1 : (w3.alloc (.cells #[Value.int .i64 c, Value.int .i64 v] 42)).cell? ⟨w3.heap.size, 1, none⟩ = some (.int .i64 v) := bd4.cell 1
    clear hb3 hB3 hB2 bx2 bx3
    go_wp2_with (first | (refine wpList_store_new rfl _ _ _ rfl rfl _ _ #[Value.int .i64 c, Value.int .i64 v] rfl reply_size rfl (one_r2 _ _) ?_))
    clear x0 x1 y0 y1
    generalize w3.alloc _ = w4 at *
    refine (readReply_any b w4).mono ?_
    rintro e wa ⟨rfl, hba⟩
    have hBa := hB4.trans (hba.mono hB4.size)
    clear hba
    have hok := decPR_ok (l := b.data.toList)
    have hbad := decPR_bad (l := b.data.toList)
    generalize decPR b.data.toList = rr at hok hbad ⊢
    obtain ⟨x1, x2, f⟩ := rr
    try simp only [] at hok hbad
    have bt := Blk.new wa 42 #[Value.int .i64 x1, Value.int .i64 x2]
    have hBb := hBa.alloc hBa.size (.cells #[Value.int .i64 x1, Value.int .i64 x2] 42)
    have y0 : (wa.alloc (.cells #[Value.int .i64 x1, Value.int .i64 x2] 42)).cell? ⟨wa.heap.size, 0, none⟩ = some (.int .i64 x1) := bt.cell 0
    have y1 : (wa.alloc (.cells #[Value.int .i64 x1, Value.int .i64 x2] 42)).cell? ⟨wa.heap.size, 1, none⟩ = some (.int .i64 x2) := bt.cell 1
    have HY := Lib.hid (reply_any x1 x2 (wa.alloc (.cells #[Value.int .i64 x1, Value.int .i64 x2] 42)))
    by_cases hf : f = 0
    · have hf1 : ((f : Int) == 0) = true := by rw [hf]; rfl
      have hf2 : ((f : Int) != 0) = false := by rw [hf]; rfl
      have hA := HY.out
      rw [hok hf, bstr_self] at hA
      have HA := Lib.hid hA
      have heq : (b.toList == b.toList) = true := by simp
      clear hA HY hf hok hbad
      go_wp2_with (first | (refine wpList_store_new rfl _ _ _ rfl rfl _ _ #[Value.int .i64 x1, Value.int .i64 x2] rfl reply_size rfl (one_r2 _ _) ?_))
      refine HA.out.mono ?_
      rintro e wb ⟨rfl, hbb⟩
      have hBc := hBb.trans (hbb.mono hBb.size)
      have bt2 := bt.below hbb bt.lt
      have y3 : wb.cell? ⟨wa.heap.size, 0, none⟩ = some (.int .i64 x1) := bt2.cell 0
      have y4 : wb.cell? ⟨wa.heap.size, 1, none⟩ = some (.int .i64 x2) := bt2.cell 1
      clear y0 y1 hbb
      go_wp2_with fail
      go_ret
      exact ⟨rfl, hBc⟩
    · have hf1 : ((f : Int) == 0) = false := by rw [beq_eq_false_iff_ne]; omega
      have hf2 : ((f : Int) != 0) = true := by rw [bne_iff_ne]; omega
      obtain ⟨rfl, rfl⟩ := hbad hf
      clear hf hok hbad
      go_wp2_with (first | (refine wpList_store_new rfl _ _ _ rfl rfl _ _ #[Value.int .i64 0, Value.int .i64 0] rfl reply_size rfl (one_r2 _ _) ?_))
      refine HY.out.mono ?_
      rintro e wb ⟨rfl, hbb⟩
      have hBc := hBb.trans (hbb.mono hBb.size)
      have bt2 := bt.below hbb bt.lt
      have y3 : wb.cell? ⟨wa.heap.size, 0, none⟩ = some (.int .i64 0) := bt2.cell 0
      have y4 : wb.cell? ⟨wa.heap.size, 1, none⟩ = some (.int .i64 0) := bt2.cell 1
      clear y0 y1 hbb
      go_wp2_with fail
      go_ret
      exact ⟨rfl, hBc⟩

theorem own : ownKnob Try.prog.godebug = none := by kernel_rfl
theorem laid : laidOutB Try.prog = true := by kernel_rfl
set_option maxRecDepth 100000 in
theorem contract (H : Type) (enc : TypeId × Value → H) (W : World) (base : Nat) (args : Array Value) (ds gs : List (DataW H)) (before : List MemPlace)
    (hval0 : ∀ (j : Nat) t v, Try.f7.params[j]? = some t → args[j]? = some v → Value.okWide Try.prog W .any base t v)
    (hW : DataW.Whole enc Try.prog Try.f7.params.toList Rows.reqReplySpec.vars false W args.toList ds gs before)
    (hsz0 : (DataW.weightsEach Try.prog (Try.f7.params.toList ++ Rows.reqReplySpec.plain.varTypes Try.prog) (ds ++ gs)).all (· ≤ reachBytes) = true) :
    Calls Try.prog 7 args W fun e W' => ∃ v, e = .returned v ∧ Rows.reqReplySpec.post enc Try.prog Try.f7 false true false false W args v W' := by
  have hval : ∀ (j : Nat) t v, Try.f7.params[j]? = some t → args[j]? = some v → Value.okWide Try.prog W .any base t v := hval0
  have hsz : (DataW.weightsEach Try.prog (Try.f7.params.toList ++ Rows.reqReplySpec.plain.varTypes Try.prog) (ds ++ gs)).all (· ≤ reachBytes) = true := hsz0
  have hlt : ∀ x ∈ before, x.block < W.heap.size := fun x hx => hW.lt x hx
  have hW' := hW
  obtain ⟨p, q, hA0, hV, rfl, hfz, hnd⟩ := hW
  have hA : DataW.TrodAll enc Try.prog W 0 (fun _ => true) true Try.f7.params.toList args.toList ds p := hA0
  rw [Try.params7] at hA hval hsz
  obtain ⟨v0, vs0, d0, ds0, p0, q0, hargs, rfl, rfl, h0, r0⟩ := trodAll_cons hA
  obtain ⟨v1, vs1, d1, ds1, p1, q1, rfl, rfl, rfl, h1, r1⟩ := trodAll_cons r0
  obtain ⟨rfl, rfl, rfl⟩ := trodAll_nil r1
  obtain rfl : args = #[v0, v1] := by cases args; simp_all
  obtain ⟨rfl, rfl⟩ := trodVars_none hV
  obtain ⟨c00, c01, y00, y01, m0, rfl, rfl, rfl, hy00, hy01⟩ := open_agg2 Try.underlying42 (by kernel_rfl) (by kernel_rfl) (hval 0 42 v0 rfl rfl) h0
  obtain ⟨a0, e00, rfl, wa0⟩ := DataW.trod_int Try.underlying31 hy00
  obtain ⟨b0, e01, rfl, wb0⟩ := DataW.trod_int Try.underlying3 hy01
  simp at e00 e01; subst e00 e01
  obtain ⟨a1, rfl, rfl, rfl, w1⟩ := open_string Try.underlying9 (hval 1 9 v1 rfl rfl) h1
  have b1 : a1.size ≤ 140737488351232 := by have := sized_string hsz (j := 1) (t := 9) rfl rfl; simpa [reachBytes] using this
  refine (walk a0 b0 a1 b1 W).mono fun e W' ⟨he, hb⟩ => ?_
  subst he
  exact ⟨_, rfl, law_post laid (by kernel_rfl) Try.underlying4 rfl rfl hW' rfl rfl rfl rfl hb⟩

set_option maxRecDepth 100000 in
theorem lifted (os : Os) (started : os.Started) (H : Type) (enc : TypeId × Value → H) :
    ReturnsInHanded {} Try.checked os 7 .any (Rows.reqReplySpec.pre6 enc Try.prog Try.f7 Rows.reqReplyRow.domain false) (Rows.reqReplySpec.post enc Try.prog Try.f7 false true false false) := by
  refine returnsInHanded_of_change_sized (C := Try.checked) own started (by kernel_rfl) Try.func7
    (ChangeSpec.witness6 (enc := enc) (C := Try.checked) false ⟨#[], #[.agg #[.int .i64 0, .int .i64 0], .string ByteArray.empty], []⟩ 8 (by kernel_rfl) (by kernel_rfl) (by kernel_rfl) (by kernel_rfl)) ?_
  intro W base args ds gs before hval0 hW _ hsz0 _
  exact contract H enc W base args ds gs before hval0 hW hsz0

theorem over : Rows.reqReplyRow.holds Try.pinned (OpenSpec.ofChange Rows.reqReplySpec) :=
  OpenClaim.holds_of_wide 7 Try.f7 rfl rfl rfl rfl rfl rfl rfl ⟨rfl, rfl, rfl, rfl, rfl⟩ rfl rfl rfl rfl rfl (by kernel_rfl) Try.func7 (by kernel_rfl)
    (of_decide_eq_true (by kernel_rfl)) (by unfold Func.isWrapper; first | (rw [if_pos (by decide +kernel)]; kernel_rfl) | (rw [if_neg (by decide +kernel)]; exact ⟨rfl, rfl⟩))
    (fun os started H enc _ => lifted os started H enc)

/-- The statement. -/
theorem proved : Rows.ReqReplySaid := over
#print axioms proved
end Go.Proofs.Ytnmokjgnbcfabaa.reqReply
