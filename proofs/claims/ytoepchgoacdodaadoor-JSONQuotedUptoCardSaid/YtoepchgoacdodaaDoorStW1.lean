/-
  Contracts of the small functions of package state.
-/
import Derived.Test.YtoepchgoacdodaaDoorStP
import Derived.Test.YtoepchgoacdodaaDoorUtfW
import Derived.Laws.Cover1
set_option linter.unusedVariables false
set_option linter.unusedSimpArgs false
namespace Go.Proofs.YtoepchgoacdodaaDoor
open Go.RowKit
set_option maxRecDepth 100000 in
theorem within_any (x a b : Int) (w : World) :
    Calls Tryd.prog 19 #[.int .i64 x, .int .i64 a, .int .i64 b] w fun e w' => e = .returned (.bool (withinB x a b)) ∧ w = w' := by
  unfold withinB
  by_cases h1 : a ≤ x
  · go_enter Tryd.func19, Tryd.ntmps19
    go_wp2_with fail
    go_ret
    exact ⟨congrArg (fun b => Ending.returned (.bool b)) (by simp [h1]), rfl⟩
  · have h1' : x < a := by omega
    go_enter Tryd.func19, Tryd.ntmps19
    go_wp2_with fail
    all_goals go_ret
    all_goals exact ⟨congrArg (fun b => Ending.returned (.bool b)) (by simp; omega), rfl⟩
set_option maxHeartbeats 1000000 in
set_option maxRecDepth 100000 in
theorem isText_any (s : ByteArray) (w : World) (hs : s.size ≤ 9223372036854775807) (hT : Tabs w) :
    Calls Tryd.prog 32 #[.string s] w fun e w' => e = .returned (.bool (textOk s)) ∧ Below w.heap.size w w' := by
  have h1 := valid_any s w hs hT
  unfold textOk
  change Calls _ _ _ _ (fun e w' => e = .returned (.bool (decide (s.size ≤ 16) && vT s)) ∧ _)
  have H1 := Lib.hid h1
  clear h1
  by_cases h : s.size ≤ 16
  · have e1 : (decide (s.size ≤ 16) && vT s) = vT s := by simp [h]
    rw [e1]
    clear e1
    go_enter Tryd.func32, Tryd.ntmps32
    go_wp2_with fail
    refine H1.out.mono ?_
    rintro e w1 ⟨rfl, hb1⟩
    go_wp2_with fail
    go_ret
    exact ⟨rfl, hb1⟩
  · have e1 : (decide (s.size ≤ 16) && vT s) = false := by simp [h]
    rw [e1]
    clear e1
    go_enter Tryd.func32, Tryd.ntmps32
    go_wp2_with fail
    go_ret
    exact ⟨rfl, Below.refl _ _⟩
set_option maxHeartbeats 1000000 in
set_option maxRecDepth 100000 in
theorem isName_any (s : ByteArray) (w : World) (hs : s.size ≤ 9223372036854775807) (hT : Tabs w) :
    Calls Tryd.prog 31 #[.string s] w fun e w' => e = .returned (.bool (nameOk s)) ∧ Below w.heap.size w w' := by
  have h1 := isText_any s w hs hT
  unfold nameOk
  have H1 := Lib.hid h1
  clear h1
  by_cases h : 0 < s.size
  · have e1 : (decide (0 < s.size) && textOk s) = textOk s := by simp [h]
    rw [e1]
    have hne : s.toList ≠ [] := by
      rw [ByteArray.toList_eq]; intro h0
      have := bl_len s
      rw [h0, List.length_nil] at this; omega
    have b1 : (!s.toList.isEmpty) = true := by cases hh : s.toList with | nil => exact absurd hh hne | cons a b => rfl
    clear e1 hne
    go_enter Tryd.func31, Tryd.ntmps31
    go_wp2_with fail
    refine H1.out.mono ?_
    rintro e w1 ⟨rfl, hb1⟩
    go_wp2_with fail
    go_ret
    exact ⟨rfl, hb1⟩
  · have e1 : (decide (0 < s.size) && textOk s) = false := by simp [h]
    rw [e1]
    obtain rfl : s = ByteArray.empty := ByteArray.size_eq_zero_iff.1 (by omega)
    clear e1
    go_enter Tryd.func31, Tryd.ntmps31
    go_wp2_with fail
    go_ret
    exact ⟨rfl, Below.refl _ _⟩

set_option maxHeartbeats 4000000 in
set_option maxRecDepth 100000 in
theorem checkJob_any (j : JobD) (w : World) (h0 : j.name.size ≤ 9223372036854775807) (h1 : j.tag.size ≤ 9223372036854775807) (hT : Tabs w) :
    Calls Tryd.prog 22 #[.agg #[.string j.name, .int .i64 j.prio, .int .i64 j.need, .int .i64 j.tries, .string j.tag]] w fun e w' => e = .returned (.int .i64 (jobE j : Int)) ∧ Below w.heap.size w w' := by
  have hb0 : Below w.heap.size w (w.alloc (.cells #[Value.string j.name, Value.int .i64 j.prio, Value.int .i64 j.need, Value.int .i64 j.tries, Value.string j.tag] 44)) := (Below.refl _ _).alloc (Nat.le_refl _) _
  have hT0 := hT.below hb0
  have bx0 := Blk.new w 44 #[Value.string j.name, Value.int .i64 j.prio, Value.int .i64 j.need, Value.int .i64 j.tries, Value.string j.tag]
  have c0 := fun w hT => isName_any j.name w h0 hT
  have c1 := fun w hT => isText_any j.tag w h1 hT
  have c2 := fun w => within_any j.prio (-1000) 1000 w
  have c3 := fun w => within_any j.need 0 1000000 w
  have c4 := fun w => within_any j.tries 0 100 w
  cases q0 : nameOk j.name
  · rw [q0] at c0
    have hE : jobE j = 4 := by simp [jobE, q0]
    rw [hE]
    have H0 := Lib.hid c0
    have H1 := Lib.hid c1
    have H2 := Lib.hid c2
    have H3 := Lib.hid c3
    have H4 := Lib.hid c4
    clear hE c0 c1 c2 c3 c4 q0
    go_enter Tryd.func22, Tryd.ntmps22
    go_wp2_with fail
    refine (H0.out _ hT0).mono ?_
    rintro e w1 ⟨rfl, hb1⟩
    have hT1 := hT0.below hb1
    have hB1 := bthen hb0 hb1
    have bx1 := bx0.below hb1 bx0.lt
    have c1_0 : w1.cell? ⟨w.heap.size, 0, none⟩ = some (Value.string j.name) := bx1.cell 0
    have c1_1 : w1.cell? ⟨w.heap.size, 1, none⟩ = some (Value.int .i64 j.prio) := bx1.cell 1
    have c1_2 : w1.cell? ⟨w.heap.size, 2, none⟩ = some (Value.int .i64 j.need) := bx1.cell 2
    have c1_3 : w1.cell? ⟨w.heap.size, 3, none⟩ = some (Value.int .i64 j.tries) := bx1.cell 3
    have c1_4 : w1.cell? ⟨w.heap.size, 4, none⟩ = some (Value.string j.tag) := bx1.cell 4
    go_wp2_with fail
    go_ret
    exact ⟨rfl, hB1⟩
  · rw [q0] at c0
    cases q1 : textOk j.tag
    · rw [q1] at c1
      have hE : jobE j = 4 := by simp [jobE, q0, q1]
      rw [hE]
      have H0 := Lib.hid c0
      have H1 := Lib.hid c1
      have H2 := Lib.hid c2
      have H3 := Lib.hid c3
      have H4 := Lib.hid c4
      clear hE c0 c1 c2 c3 c4 q0 q1
      go_enter Tryd.func22, Tryd.ntmps22
      go_wp2_with fail
      refine (H0.out _ hT0).mono ?_
      rintro e w1 ⟨rfl, hb1⟩
      have hT1 := hT0.below hb1
      have hB1 := bthen hb0 hb1
      have bx1 := bx0.below hb1 bx0.lt
      have c1_0 : w1.cell? ⟨w.heap.size, 0, none⟩ = some (Value.string j.name) := bx1.cell 0
      have c1_1 : w1.cell? ⟨w.heap.size, 1, none⟩ = some (Value.int .i64 j.prio) := bx1.cell 1
      have c1_2 : w1.cell? ⟨w.heap.size, 2, none⟩ = some (Value.int .i64 j.need) := bx1.cell 2
      have c1_3 : w1.cell? ⟨w.heap.size, 3, none⟩ = some (Value.int .i64 j.tries) := bx1.cell 3
      have c1_4 : w1.cell? ⟨w.heap.size, 4, none⟩ = some (Value.string j.tag) := bx1.cell 4
      go_wp2_with fail
      refine (H1.out _ hT1).mono ?_
      rintro e w2 ⟨rfl, hb2⟩
      have hT2 := hT1.below hb2
      have hB2 := bthen hB1 hb2
      have bx2 := bx1.below hb2 bx1.lt
      have c2_0 : w2.cell? ⟨w.heap.size, 0, none⟩ = some (Value.string j.name) := bx2.cell 0
      have c2_1 : w2.cell? ⟨w.heap.size, 1, none⟩ = some (Value.int .i64 j.prio) := bx2.cell 1
      have c2_2 : w2.cell? ⟨w.heap.size, 2, none⟩ = some (Value.int .i64 j.need) := bx2.cell 2
      have c2_3 : w2.cell? ⟨w.heap.size, 3, none⟩ = some (Value.int .i64 j.tries) := bx2.cell 3
      have c2_4 : w2.cell? ⟨w.heap.size, 4, none⟩ = some (Value.string j.tag) := bx2.cell 4
      go_wp2_with fail
      go_ret
      exact ⟨rfl, hB2⟩
    · rw [q1] at c1
      cases q2 : withinB j.prio (-1000) 1000
      · rw [q2] at c2
        have hE : jobE j = 1 := by simp [jobE, q0, q1, q2]
        rw [hE]
        have H0 := Lib.hid c0
        have H1 := Lib.hid c1
        have H2 := Lib.hid c2
        have H3 := Lib.hid c3
        have H4 := Lib.hid c4
        clear hE c0 c1 c2 c3 c4 q0 q1 q2
        go_enter Tryd.func22, Tryd.ntmps22
        go_wp2_with fail
        refine (H0.out _ hT0).mono ?_
        rintro e w1 ⟨rfl, hb1⟩
        have hT1 := hT0.below hb1
        have hB1 := bthen hb0 hb1
        have bx1 := bx0.below hb1 bx0.lt
        have c1_0 : w1.cell? ⟨w.heap.size, 0, none⟩ = some (Value.string j.name) := bx1.cell 0
        have c1_1 : w1.cell? ⟨w.heap.size, 1, none⟩ = some (Value.int .i64 j.prio) := bx1.cell 1
        have c1_2 : w1.cell? ⟨w.heap.size, 2, none⟩ = some (Value.int .i64 j.need) := bx1.cell 2
        have c1_3 : w1.cell? ⟨w.heap.size, 3, none⟩ = some (Value.int .i64 j.tries) := bx1.cell 3
        have c1_4 : w1.cell? ⟨w.heap.size, 4, none⟩ = some (Value.string j.tag) := bx1.cell 4
        go_wp2_with fail
        refine (H1.out _ hT1).mono ?_
        rintro e w2 ⟨rfl, hb2⟩
        have hT2 := hT1.below hb2
        have hB2 := bthen hB1 hb2
        have bx2 := bx1.below hb2 bx1.lt
        have c2_0 : w2.cell? ⟨w.heap.size, 0, none⟩ = some (Value.string j.name) := bx2.cell 0
        have c2_1 : w2.cell? ⟨w.heap.size, 1, none⟩ = some (Value.int .i64 j.prio) := bx2.cell 1
        have c2_2 : w2.cell? ⟨w.heap.size, 2, none⟩ = some (Value.int .i64 j.need) := bx2.cell 2
        have c2_3 : w2.cell? ⟨w.heap.size, 3, none⟩ = some (Value.int .i64 j.tries) := bx2.cell 3
        have c2_4 : w2.cell? ⟨w.heap.size, 4, none⟩ = some (Value.string j.tag) := bx2.cell 4
        go_wp2_with fail
        refine (H2.out _).mono ?_
        rintro e w9 ⟨rfl, rfl⟩
        go_wp2_with fail
        go_ret
        exact ⟨rfl, hB2⟩
      · rw [q2] at c2
        cases q3 : withinB j.need 0 1000000
        · rw [q3] at c3
          have hE : jobE j = 1 := by simp [jobE, q0, q1, q2, q3]
          rw [hE]
          have H0 := Lib.hid c0
          have H1 := Lib.hid c1
          have H2 := Lib.hid c2
          have H3 := Lib.hid c3
          have H4 := Lib.hid c4
          clear hE c0 c1 c2 c3 c4 q0 q1 q2 q3
          go_enter Tryd.func22, Tryd.ntmps22
          go_wp2_with fail
          refine (H0.out _ hT0).mono ?_
          rintro e w1 ⟨rfl, hb1⟩
          have hT1 := hT0.below hb1
          have hB1 := bthen hb0 hb1
          have bx1 := bx0.below hb1 bx0.lt
          have c1_0 : w1.cell? ⟨w.heap.size, 0, none⟩ = some (Value.string j.name) := bx1.cell 0
          have c1_1 : w1.cell? ⟨w.heap.size, 1, none⟩ = some (Value.int .i64 j.prio) := bx1.cell 1
          have c1_2 : w1.cell? ⟨w.heap.size, 2, none⟩ = some (Value.int .i64 j.need) := bx1.cell 2
          have c1_3 : w1.cell? ⟨w.heap.size, 3, none⟩ = some (Value.int .i64 j.tries) := bx1.cell 3
          have c1_4 : w1.cell? ⟨w.heap.size, 4, none⟩ = some (Value.string j.tag) := bx1.cell 4
          go_wp2_with fail
          refine (H1.out _ hT1).mono ?_
          rintro e w2 ⟨rfl, hb2⟩
          have hT2 := hT1.below hb2
          have hB2 := bthen hB1 hb2
          have bx2 := bx1.below hb2 bx1.lt
          have c2_0 : w2.cell? ⟨w.heap.size, 0, none⟩ = some (Value.string j.name) := bx2.cell 0
          have c2_1 : w2.cell? ⟨w.heap.size, 1, none⟩ = some (Value.int .i64 j.prio) := bx2.cell 1
          have c2_2 : w2.cell? ⟨w.heap.size, 2, none⟩ = some (Value.int .i64 j.need) := bx2.cell 2
          have c2_3 : w2.cell? ⟨w.heap.size, 3, none⟩ = some (Value.int .i64 j.tries) := bx2.cell 3
          have c2_4 : w2.cell? ⟨w.heap.size, 4, none⟩ = some (Value.string j.tag) := bx2.cell 4
          go_wp2_with fail
          refine (H2.out _).mono ?_
          rintro e w9 ⟨rfl, rfl⟩
          go_wp2_with fail
          refine (H3.out _).mono ?_
          rintro e w9 ⟨rfl, rfl⟩
          go_wp2_with fail
          go_ret
          exact ⟨rfl, hB2⟩
        · rw [q3] at c3
          cases q4 : withinB j.tries 0 100
          · rw [q4] at c4
            have hE : jobE j = 1 := by simp [jobE, q0, q1, q2, q3, q4]
            rw [hE]
            have H0 := Lib.hid c0
            have H1 := Lib.hid c1
            have H2 := Lib.hid c2
            have H3 := Lib.hid c3
            have H4 := Lib.hid c4
            clear hE c0 c1 c2 c3 c4 q0 q1 q2 q3 q4
            go_enter Tryd.func22, Tryd.ntmps22
            go_wp2_with fail
            refine (H0.out _ hT0).mono ?_
            rintro e w1 ⟨rfl, hb1⟩
            have hT1 := hT0.below hb1
            have hB1 := bthen hb0 hb1
            have bx1 := bx0.below hb1 bx0.lt
            have c1_0 : w1.cell? ⟨w.heap.size, 0, none⟩ = some (Value.string j.name) := bx1.cell 0
            have c1_1 : w1.cell? ⟨w.heap.size, 1, none⟩ = some (Value.int .i64 j.prio) := bx1.cell 1
            have c1_2 : w1.cell? ⟨w.heap.size, 2, none⟩ = some (Value.int .i64 j.need) := bx1.cell 2
            have c1_3 : w1.cell? ⟨w.heap.size, 3, none⟩ = some (Value.int .i64 j.tries) := bx1.cell 3
            have c1_4 : w1.cell? ⟨w.heap.size, 4, none⟩ = some (Value.string j.tag) := bx1.cell 4
            go_wp2_with fail
            refine (H1.out _ hT1).mono ?_
            rintro e w2 ⟨rfl, hb2⟩
            have hT2 := hT1.below hb2
            have hB2 := bthen hB1 hb2
            have bx2 := bx1.below hb2 bx1.lt
            have c2_0 : w2.cell? ⟨w.heap.size, 0, none⟩ = some (Value.string j.name) := bx2.cell 0
            have c2_1 : w2.cell? ⟨w.heap.size, 1, none⟩ = some (Value.int .i64 j.prio) := bx2.cell 1
            have c2_2 : w2.cell? ⟨w.heap.size, 2, none⟩ = some (Value.int .i64 j.need) := bx2.cell 2
            have c2_3 : w2.cell? ⟨w.heap.size, 3, none⟩ = some (Value.int .i64 j.tries) := bx2.cell 3
            have c2_4 : w2.cell? ⟨w.heap.size, 4, none⟩ = some (Value.string j.tag) := bx2.cell 4
            go_wp2_with fail
            refine (H2.out _).mono ?_
            rintro e w9 ⟨rfl, rfl⟩
            go_wp2_with fail
            refine (H3.out _).mono ?_
            rintro e w9 ⟨rfl, rfl⟩
            go_wp2_with fail
            refine (H4.out _).mono ?_
            rintro e w9 ⟨rfl, rfl⟩
            go_wp2_with fail
            go_ret
            exact ⟨rfl, hB2⟩
          · rw [q4] at c4
            have hE : jobE j = 0 := by simp [jobE, q0, q1, q2, q3, q4]
            rw [hE]
            have H0 := Lib.hid c0
            have H1 := Lib.hid c1
            have H2 := Lib.hid c2
            have H3 := Lib.hid c3
            have H4 := Lib.hid c4
            clear hE c0 c1 c2 c3 c4 q0 q1 q2 q3 q4
            go_enter Tryd.func22, Tryd.ntmps22
            go_wp2_with fail
            refine (H0.out _ hT0).mono ?_
            rintro e w1 ⟨rfl, hb1⟩
            have hT1 := hT0.below hb1
            have hB1 := bthen hb0 hb1
            have bx1 := bx0.below hb1 bx0.lt
            have c1_0 : w1.cell? ⟨w.heap.size, 0, none⟩ = some (Value.string j.name) := bx1.cell 0
            have c1_1 : w1.cell? ⟨w.heap.size, 1, none⟩ = some (Value.int .i64 j.prio) := bx1.cell 1
            have c1_2 : w1.cell? ⟨w.heap.size, 2, none⟩ = some (Value.int .i64 j.need) := bx1.cell 2
            have c1_3 : w1.cell? ⟨w.heap.size, 3, none⟩ = some (Value.int .i64 j.tries) := bx1.cell 3
            have c1_4 : w1.cell? ⟨w.heap.size, 4, none⟩ = some (Value.string j.tag) := bx1.cell 4
            go_wp2_with fail
            refine (H1.out _ hT1).mono ?_
            rintro e w2 ⟨rfl, hb2⟩
            have hT2 := hT1.below hb2
            have hB2 := bthen hB1 hb2
            have bx2 := bx1.below hb2 bx1.lt
            have c2_0 : w2.cell? ⟨w.heap.size, 0, none⟩ = some (Value.string j.name) := bx2.cell 0
            have c2_1 : w2.cell? ⟨w.heap.size, 1, none⟩ = some (Value.int .i64 j.prio) := bx2.cell 1
            have c2_2 : w2.cell? ⟨w.heap.size, 2, none⟩ = some (Value.int .i64 j.need) := bx2.cell 2
            have c2_3 : w2.cell? ⟨w.heap.size, 3, none⟩ = some (Value.int .i64 j.tries) := bx2.cell 3
            have c2_4 : w2.cell? ⟨w.heap.size, 4, none⟩ = some (Value.string j.tag) := bx2.cell 4
            go_wp2_with fail
            refine (H2.out _).mono ?_
            rintro e w9 ⟨rfl, rfl⟩
            go_wp2_with fail
            refine (H3.out _).mono ?_
            rintro e w9 ⟨rfl, rfl⟩
            go_wp2_with fail
            refine (H4.out _).mono ?_
            rintro e w9 ⟨rfl, rfl⟩
            go_wp2_with fail
            go_ret
            exact ⟨rfl, hB2⟩
set_option maxHeartbeats 4000000 in
set_option maxRecDepth 100000 in
theorem checkNode_any (n : NodeD) (w : World) (h0 : n.name.size ≤ 9223372036854775807) (h1 : n.zone.size ≤ 9223372036854775807) (hT : Tabs w) :
    Calls Tryd.prog 25 #[.agg #[.string n.name, .int .i64 n.room, .string n.zone]] w fun e w' => e = .returned (.int .i64 (nodeE n : Int)) ∧ Below w.heap.size w w' := by
  have hb0 : Below w.heap.size w (w.alloc (.cells #[Value.string n.name, Value.int .i64 n.room, Value.string n.zone] 48)) := (Below.refl _ _).alloc (Nat.le_refl _) _
  have hT0 := hT.below hb0
  have bx0 := Blk.new w 48 #[Value.string n.name, Value.int .i64 n.room, Value.string n.zone]
  have c0 := fun w hT => isName_any n.name w h0 hT
  have c1 := fun w hT => isText_any n.zone w h1 hT
  have c2 := fun w => within_any n.room 0 1000000 w
  cases q0 : nameOk n.name
  · rw [q0] at c0
    have hE : nodeE n = 4 := by simp [nodeE, q0]
    rw [hE]
    have H0 := Lib.hid c0
    have H1 := Lib.hid c1
    have H2 := Lib.hid c2
    clear hE c0 c1 c2 q0
    go_enter Tryd.func25, Tryd.ntmps25
    go_wp2_with fail
    refine (H0.out _ hT0).mono ?_
    rintro e w1 ⟨rfl, hb1⟩
    have hT1 := hT0.below hb1
    have hB1 := bthen hb0 hb1
    have bx1 := bx0.below hb1 bx0.lt
    have c1_0 : w1.cell? ⟨w.heap.size, 0, none⟩ = some (Value.string n.name) := bx1.cell 0
    have c1_1 : w1.cell? ⟨w.heap.size, 1, none⟩ = some (Value.int .i64 n.room) := bx1.cell 1
    have c1_2 : w1.cell? ⟨w.heap.size, 2, none⟩ = some (Value.string n.zone) := bx1.cell 2
    go_wp2_with fail
    go_ret
    exact ⟨rfl, hB1⟩
  · rw [q0] at c0
    cases q1 : textOk n.zone
    · rw [q1] at c1
      have hE : nodeE n = 4 := by simp [nodeE, q0, q1]
      rw [hE]
      have H0 := Lib.hid c0
      have H1 := Lib.hid c1
      have H2 := Lib.hid c2
      clear hE c0 c1 c2 q0 q1
      go_enter Tryd.func25, Tryd.ntmps25
      go_wp2_with fail
      refine (H0.out _ hT0).mono ?_
      rintro e w1 ⟨rfl, hb1⟩
      have hT1 := hT0.below hb1
      have hB1 := bthen hb0 hb1
      have bx1 := bx0.below hb1 bx0.lt
      have c1_0 : w1.cell? ⟨w.heap.size, 0, none⟩ = some (Value.string n.name) := bx1.cell 0
      have c1_1 : w1.cell? ⟨w.heap.size, 1, none⟩ = some (Value.int .i64 n.room) := bx1.cell 1
      have c1_2 : w1.cell? ⟨w.heap.size, 2, none⟩ = some (Value.string n.zone) := bx1.cell 2
      go_wp2_with fail
      refine (H1.out _ hT1).mono ?_
      rintro e w2 ⟨rfl, hb2⟩
      have hT2 := hT1.below hb2
      have hB2 := bthen hB1 hb2
      have bx2 := bx1.below hb2 bx1.lt
      have c2_0 : w2.cell? ⟨w.heap.size, 0, none⟩ = some (Value.string n.name) := bx2.cell 0
      have c2_1 : w2.cell? ⟨w.heap.size, 1, none⟩ = some (Value.int .i64 n.room) := bx2.cell 1
      have c2_2 : w2.cell? ⟨w.heap.size, 2, none⟩ = some (Value.string n.zone) := bx2.cell 2
      go_wp2_with fail
      go_ret
      exact ⟨rfl, hB2⟩
    · rw [q1] at c1
      cases q2 : withinB n.room 0 1000000
      · rw [q2] at c2
        have hE : nodeE n = 1 := by simp [nodeE, q0, q1, q2]
        rw [hE]
        have H0 := Lib.hid c0
        have H1 := Lib.hid c1
        have H2 := Lib.hid c2
        clear hE c0 c1 c2 q0 q1 q2
        go_enter Tryd.func25, Tryd.ntmps25
        go_wp2_with fail
        refine (H0.out _ hT0).mono ?_
        rintro e w1 ⟨rfl, hb1⟩
        have hT1 := hT0.below hb1
        have hB1 := bthen hb0 hb1
        have bx1 := bx0.below hb1 bx0.lt
        have c1_0 : w1.cell? ⟨w.heap.size, 0, none⟩ = some (Value.string n.name) := bx1.cell 0
        have c1_1 : w1.cell? ⟨w.heap.size, 1, none⟩ = some (Value.int .i64 n.room) := bx1.cell 1
        have c1_2 : w1.cell? ⟨w.heap.size, 2, none⟩ = some (Value.string n.zone) := bx1.cell 2
        go_wp2_with fail
        refine (H1.out _ hT1).mono ?_
        rintro e w2 ⟨rfl, hb2⟩
        have hT2 := hT1.below hb2
        have hB2 := bthen hB1 hb2
        have bx2 := bx1.below hb2 bx1.lt
        have c2_0 : w2.cell? ⟨w.heap.size, 0, none⟩ = some (Value.string n.name) := bx2.cell 0
        have c2_1 : w2.cell? ⟨w.heap.size, 1, none⟩ = some (Value.int .i64 n.room) := bx2.cell 1
        have c2_2 : w2.cell? ⟨w.heap.size, 2, none⟩ = some (Value.string n.zone) := bx2.cell 2
        go_wp2_with fail
        refine (H2.out _).mono ?_
        rintro e w9 ⟨rfl, rfl⟩
        go_wp2_with fail
        go_ret
        exact ⟨rfl, hB2⟩
      · rw [q2] at c2
        have hE : nodeE n = 0 := by simp [nodeE, q0, q1, q2]
        rw [hE]
        have H0 := Lib.hid c0
        have H1 := Lib.hid c1
        have H2 := Lib.hid c2
        clear hE c0 c1 c2 q0 q1 q2
        go_enter Tryd.func25, Tryd.ntmps25
        go_wp2_with fail
        refine (H0.out _ hT0).mono ?_
        rintro e w1 ⟨rfl, hb1⟩
        have hT1 := hT0.below hb1
        have hB1 := bthen hb0 hb1
        have bx1 := bx0.below hb1 bx0.lt
        have c1_0 : w1.cell? ⟨w.heap.size, 0, none⟩ = some (Value.string n.name) := bx1.cell 0
        have c1_1 : w1.cell? ⟨w.heap.size, 1, none⟩ = some (Value.int .i64 n.room) := bx1.cell 1
        have c1_2 : w1.cell? ⟨w.heap.size, 2, none⟩ = some (Value.string n.zone) := bx1.cell 2
        go_wp2_with fail
        refine (H1.out _ hT1).mono ?_
        rintro e w2 ⟨rfl, hb2⟩
        have hT2 := hT1.below hb2
        have hB2 := bthen hB1 hb2
        have bx2 := bx1.below hb2 bx1.lt
        have c2_0 : w2.cell? ⟨w.heap.size, 0, none⟩ = some (Value.string n.name) := bx2.cell 0
        have c2_1 : w2.cell? ⟨w.heap.size, 1, none⟩ = some (Value.int .i64 n.room) := bx2.cell 1
        have c2_2 : w2.cell? ⟨w.heap.size, 2, none⟩ = some (Value.string n.zone) := bx2.cell 2
        go_wp2_with fail
        refine (H2.out _).mono ?_
        rintro e w9 ⟨rfl, rfl⟩
        go_wp2_with fail
        go_ret
        exact ⟨rfl, hB2⟩
set_option maxRecDepth 100000 in
theorem jobKey_any (j : JobD) (w : World) :
    Calls Tryd.prog 21 #[.agg #[.string j.name, .int .i64 j.prio, .int .i64 j.need, .int .i64 j.tries, .string j.tag]] w fun e w' => e = .returned (.string j.name) ∧ Below w.heap.size w w' := by
  go_enter Tryd.func21, Tryd.ntmps21
  go_wp2_with fail
  go_ret
  exact ⟨rfl, (Below.refl _ _).alloc (Nat.le_refl _) _⟩
set_option maxRecDepth 100000 in
theorem nodeKey_any (n : NodeD) (w : World) :
    Calls Tryd.prog 24 #[.agg #[.string n.name, .int .i64 n.room, .string n.zone]] w fun e w' => e = .returned (.string n.name) ∧ Below w.heap.size w w' := by
  go_enter Tryd.func24, Tryd.ntmps24
  go_wp2_with fail
  go_ret
  exact ⟨rfl, (Below.refl _ _).alloc (Nat.le_refl _) _⟩
set_option maxRecDepth 100000 in
theorem leaseKey_any (l : LeaseD) (w : World) :
    Calls Tryd.prog 27 #[.agg #[.string l.job, .string l.node, .int .i64 l.till]] w fun e w' => e = .returned (.string l.job) ∧ Below w.heap.size w w' := by
  go_enter Tryd.func27, Tryd.ntmps27
  go_wp2_with fail
  go_ret
  exact ⟨rfl, (Below.refl _ _).alloc (Nat.le_refl _) _⟩
end Go.Proofs.YtoepchgoacdodaaDoor
