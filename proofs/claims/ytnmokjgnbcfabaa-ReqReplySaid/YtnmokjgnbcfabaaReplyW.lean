/-
  Contracts of req.isTime, isReply, Reply, ReadReply.
-/
import Derived.Test.YtnmokjgnbcfabaaReplyP
import Derived.Test.YtnmokjgnbcfabaaNumW
set_option linter.unusedVariables false
set_option linter.unusedSimpArgs false
namespace Go.Proofs.Ytnmokjgnbcfabaa
open Go.RowKit
set_option maxRecDepth 100000 in
theorem isTime_any (x : Int) (w : World) :
    Calls Try.prog 23 #[.int .i64 x] w fun e w' => e = .returned (.bool (decide (0 ≤ x) && decide (x ≤ 1099511627776))) ∧ w = w' := by
  by_cases h1 : 0 ≤ x
  · go_enter Try.func23, Try.ntmps23
    go_wp2_with fail
    go_ret
    exact ⟨congrArg (fun b => Ending.returned (.bool b)) (by simp [h1]), rfl⟩
  · have h1' : x < 0 := by omega
    go_enter Try.func23, Try.ntmps23
    go_wp2_with fail
    all_goals go_ret
    all_goals exact ⟨congrArg (fun b => Ending.returned (.bool b)) (by simp; omega), rfl⟩
set_option maxHeartbeats 1000000 in
set_option maxRecDepth 100000 in
theorem isReply_any (c v : Int) (w : World) :
    Calls Try.prog 19 #[.agg #[Value.int .i64 c, Value.int .i64 v]] w fun e w' => e = .returned (.bool (replyOk c v)) ∧ Below w.heap.size w w' := by
  have hb0 : Below w.heap.size w (w.alloc (.cells #[Value.int .i64 c, Value.int .i64 v] 42)) := (Below.refl _ _).alloc (Nat.le_refl _) _
  have HI := Lib.hid (fun (W : World) => isTime_any v W)
  have HV := Lib.hid (show replyOk c v = (decide (0 ≤ c) && decide (c ≤ 10) && (decide (0 ≤ v) && decide (v ≤ 1099511627776))) from rfl)
  generalize (decide (0 ≤ v) && decide (v ≤ 1099511627776)) = bt at *
  by_cases h1 : 0 ≤ c
  · have d1 : decide (0 ≤ c) = true := decide_eq_true h1
    by_cases h2 : c ≤ 10
    · have d2 : decide (c ≤ 10) = true := decide_eq_true h2
      have HR := Lib.hid (show replyOk c v = bt from by rw [HV.out, d1, d2]; rfl)
      go_enter Try.func19, Try.ntmps19
      go_wp2_with fail
      refine (HI.out _).mono ?_
      rintro e w' ⟨rfl, rfl⟩
      go_wp2_with fail
      go_ret
      exact ⟨by rw [HR.out]; rfl, hb0⟩
    · have d2 : decide (c ≤ 10) = false := decide_eq_false h2
      have HR := Lib.hid (show replyOk c v = false from by rw [HV.out, d1, d2]; rfl)
      go_enter Try.func19, Try.ntmps19
      go_wp2_with fail
      go_ret
      exact ⟨by rw [HR.out]; rfl, hb0⟩
  · have d1 : decide (0 ≤ c) = false := decide_eq_false h1
    have HR := Lib.hid (show replyOk c v = false from by rw [HV.out, d1]; rfl)
    go_enter Try.func19, Try.ntmps19
    go_wp2_with fail
    go_ret
    exact ⟨by rw [HR.out]; rfl, hb0⟩
set_option maxHeartbeats 2000000 in
set_option maxRecDepth 100000 in
theorem reply_any (c v : Int) (w : World) :
    Calls Try.prog 12 #[.agg #[Value.int .i64 c, Value.int .i64 v]] w fun e w' => e = .returned (.tuple #[.string (bstr (encPR c v).1), .int .i64 ((encPR c v).2 : Int)]) ∧ Below w.heap.size w w' := by
  have hb0 : Below w.heap.size w (w.alloc (.cells #[Value.int .i64 c, Value.int .i64 v] 42)) := (Below.refl _ _).alloc (Nat.le_refl _) _
  have bx := Blk.new w 42 #[Value.int .i64 c, Value.int .i64 v]
  have hi := isReply_any c v (w.alloc (.cells #[Value.int .i64 c, Value.int .i64 v] 42))
  have HE := Lib.hid (show encPR c v = if replyOk c v = true then (encP c v, 0) else ([], 1) from rfl)
  cases hr : replyOk c v
  · rw [hr] at hi HE
    rw [if_neg (by simp)] at HE
    have HI := Lib.hid hi
    clear hi hr
    go_enter Try.func12, Try.ntmps12
    go_wp2_with fail
    refine HI.out.mono ?_
    rintro e w1 ⟨rfl, hb1⟩
    have hB1 := hb0.trans (hb1.mono hb0.size)
    go_wp2_with fail
    go_ret2
    exact ⟨by rw [HE.out]; rfl, hB1⟩
  · rw [hr] at hi HE
    rw [if_pos rfl] at HE
    obtain ⟨hn1, hn2⟩ := replyOk_nb hr
    have l1 := putN_len10 c.toNat (by have := hn1.2; omega)
    have l2 := putN_len10 v.toNat (by have := hn2.2; omega)
    have HN1 := Lib.hid hn1
    have HN2 := Lib.hid hn2
    have HI := Lib.hid hi
    clear hi hr hn1 hn2
    go_enter Try.func12, Try.ntmps12
    go_wp2_with fail
    refine HI.out.mono ?_
    rintro e w2 ⟨rfl, hb2⟩
    have hB2 := hb0.trans (hb2.mono hb0.size)
    have bx2 := bx.below hb2 bx.lt
    clear hb2 hb0 bx HI
    have bw := Blk.new w2 50 #[Value.slice none 0 0]
    have hB3 := hB2.alloc hB2.size (.cells #[Value.slice none 0 0] 50)
    have bx3 := bx2.alloc (.cells #[Value.slice none 0 0] 50)
    have hW3 : Wr (w2.alloc (.cells #[Value.slice none 0 0] 50)) w2.heap.size [] := ⟨_, bw, Buf.nil _ _ _⟩
    have n1 : w.heap.size ≠ w2.heap.size := by have := bx2.lt; omega
    have hsz2 := hB2.size
    have x0 : (w2.alloc (.cells #[Value.slice none 0 0] 50)).cell? ⟨w.heap.size, 0, none⟩ = some (.int .i64 c) := bx3.cell 0
    clear bw bx2 hB2
    go_wp2_with fail
    generalize w2.alloc _ = w3 at *
    refine (wNumber_keep w2.heap.size [] c w3 hW3 HN1.out (by simp)).mono ?_
    rintro e w4 ⟨rfl, h4, B4, K4⟩
    rw [List.nil_append] at h4
    have bx4 := K4 _ _ _ (by decide) n1 bx3
    have hB4 := hB3.trans (B4.mono hsz2)
    have x1 : w4.cell? ⟨w.heap.size, 1, none⟩ = some (.int .i64 v) := bx4.cell 1
    clear hB3 bx3 B4 K4 hW3 x0
    go_wp2_with fail
    refine (wNumber_keep w2.heap.size _ v w4 h4 HN2.out (by omega)).mono ?_
    rintro e w5 ⟨rfl, h5, B5, K5⟩
    have hB5 := hB4.trans (B5.mono hsz2)
    have HO := Lib.hid (show putN c.toNat ++ putN v.toNat = encP c v from rfl)
    rw [HO.out] at h5
    clear hB4 bx4 B5 K5 h4 x1 HO
    obtain ⟨vv, bw7, hv7⟩ := h5
    obtain ⟨pa, ca, rfl⟩ := hv7.form
    have ew : w5.cell? ⟨w2.heap.size, 0, none⟩ = some (.slice pa (encP c v).length ca) := bw7.cell 0
    have hcv := buf_string (P := Try.prog) (U := 5) (src := 48) (dst := 9) Try.underlying48 Try.underlying5 Try.underlying9 hv7
    generalize encP c v = out at *
    have HB := Lib.hid hB5
    clear hB5 bw7 hv7
    go_wp2_with fail
    go_ret2
    exact ⟨by rw [HE.out]; rfl, HB.out⟩
end Go.Proofs.Ytnmokjgnbcfabaa
