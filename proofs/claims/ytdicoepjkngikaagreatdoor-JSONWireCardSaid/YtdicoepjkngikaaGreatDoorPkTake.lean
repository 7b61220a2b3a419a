/-
  Several texts in one: TakeJ, TakeN.
-/
import Derived.Test.YtdicoepjkngikaaGreatDoorPkRead
import Derived.Lib.AppendStr
/-
  Contracts of wire.Take: JobD. Printed by wip/gen_take.py.
-/
set_option linter.unusedVariables false
set_option linter.unusedSimpArgs false
namespace Go.Proofs.YtdicoepjkngikaaGreatDoor
open Go.RowKit
theorem job_infoT : (Tryz.prog.info? 49).map (fun i => (i.zero, i.size, i.bytes)) = some (some (.agg #[.string ByteArray.empty, .int .i64 0, .int .i64 0, .int .i64 0, .string ByteArray.empty]), 5, 56) := by kernel_rfl
/-- Rows of the call's own. -/
def OwnJ (w : World) (base : Nat) (v : Value) (l : List JobD) : Prop := w.ownsRow base 49 5 v l.length (l.flatMap rowJ)
theorem OwnJ.gw {a b : World} {base g : Nat} {v : Value} {l : List JobD} (h : OwnJ a base v l) (hg : a.grownBy b (some g)) (hlt : g < base) : OwnJ b base v l :=
  World.ownsRow.kept (row := some g) h ⟨hg.os, hg.tape, hg.output, hg.size, hg.block⟩ (.inr (fun h0 => by have := (World.ownsRow.lt h g h0).1; omega))
section
variable {w : World} {ops : Array Oper} {rest : List Oper} {o : Oper} {a : Act} {Q : Exit → Act → World → Prop}
theorem wpList_append_J (hgd : o.guard = none) (s x : Operand)
    (ho : o.op = .call { callee := .builtin .append, args := #[s, x], argTypes := #[22, 22] })
    (base : Nat) (v : Value) (acc : List JobD) (hs : a.eval s = v) (hown : OwnJ w base v acc) (g : Nat) (j : JobD) (hx : a.eval x = .slice (some ⟨g, 0, none⟩) 1 1)
    (hb : Blk w g 49 (rowJ j).toArray) (hlen : acc.length + 1 ≤ 1099511627776) (hbase : base ≤ w.heap.size)
    (h : ∀ v' w', OwnJ w' base v' (acc ++ [j]) → Below base w w' → wpList Tryz.prog ops Q rest (a.put o.dst v') w') : wpList Tryz.prog ops Q (o :: rest) a w := by
  obtain ⟨i0, hi, hz0, hz1, hz2⟩ := info_parts job_infoT
  refine wpList_append_own w hgd s x 22 ho base 49 i0 _ 5 56 Tryz.underlying22 hi hz0 hz1 hz2 rfl (by decide) v acc.length (acc.flatMap rowJ) hs hown ⟨g, 0, none⟩ 1 1 (rowJ j) hx rfl ?_ ?_ ?_ ?_ hbase ?_
  · exact World.news_of_block hb
  · simp [rowJ, Value.oneCell']
  · simp only [maxLen]; omega
  · omega
  · intro v' w' hown' hg _
    refine h v' w' ?_ ?_
    · unfold OwnJ
      rw [List.flatMap_append, List.length_append]
      simpa using hown'
    · exact (Below.refl base w).grown hg hbase (fun k hk => (World.ownsRow.lt hown k hk).1)
end
set_option maxHeartbeats 1000000 in
set_option maxRecDepth 100000 in
theorem cloJ_any (t6 t3 : TypeId) (g6 g3 g x : Nat) (l : List UInt8) (v : Int) (w : World) (h6 : Blk w g6 t6 #[.pointer (some ⟨g, 0, none⟩)]) (h3 : Blk w g3 t3 #[.int .i64 v]) (hR : Rd w g l x) (hl : l.length ≤ 4611686018427387904) (hT : Tabs w) :
    Calls Tryz.prog 34 #[.pointer (some ⟨g6, 0, none⟩), .pointer (some ⟨g3, 0, none⟩)] w fun e w' => RdP (fun j : JobD => .agg (rowJ j).toArray) (pJob v) w g l x e w' := by
  have hglt := hR.lt
  go_enter Tryz.func34, Tryz.ntmps34
  have bC := Blk.new w 49 #[Value.string (ByteArray.mk #[]), Value.int .i64 0, Value.int .i64 0, Value.int .i64 0, Value.string (ByteArray.mk #[])]
  have R0 : Rd (w.alloc (.cells #[Value.string (ByteArray.mk #[]), Value.int .i64 0, Value.int .i64 0, Value.int .i64 0, Value.string (ByteArray.mk #[])] 49)) g l x := Blk.alloc hR _
  have T0 : Tabs (w.alloc (.cells #[Value.string (ByteArray.mk #[]), Value.int .i64 0, Value.int .i64 0, Value.int .i64 0, Value.string (ByteArray.mk #[])] 49)) := hT.below ((Below.refl _ _).alloc (Nat.le_refl _) _)
  have G0 : w.grownBy (w.alloc (.cells #[Value.string (ByteArray.mk #[]), Value.int .i64 0, Value.int .i64 0, Value.int .i64 0, Value.string (ByteArray.mk #[])] 49)) (some g) := grow_alloc (grow_refl _ _) _
  have c6 : (w.alloc (.cells #[Value.string (ByteArray.mk #[]), Value.int .i64 0, Value.int .i64 0, Value.int .i64 0, Value.string (ByteArray.mk #[])] 49)).cell? ⟨g6, 0, none⟩ = some (.pointer (some ⟨g, 0, none⟩)) := (h6.alloc _).cell 0
  have c3 : (w.alloc (.cells #[Value.string (ByteArray.mk #[]), Value.int .i64 0, Value.int .i64 0, Value.int .i64 0, Value.string (ByteArray.mk #[])] 49)).cell? ⟨g3, 0, none⟩ = some (.int .i64 v) := (h3.alloc _).cell 0
  clear hR hT
  go_wp2_with fail
  generalize w.alloc (.cells #[Value.string (ByteArray.mk #[]), Value.int .i64 0, Value.int .i64 0, Value.int .i64 0, Value.string (ByteArray.mk #[])] 49) = W0 at *
  refine (rJob_any g x l v W0 R0 hl T0).mono ?_
  rintro e w1 ⟨g1, a1, l1, y1, rfl, R1, S1⟩
  have b1 := bC.gw g1 (by omega)
  have G1 := grow_trans G0 g1
  clear bC R0 T0 G0 g1 c6 c3
  go_wp2_with (refine wpList_store_blk rfl _ _ _ rfl w.heap.size rfl _ _ (rowJ a1).toArray b1 rfl job_size rfl (one_rowJ _) ?_)
  (try simp only [Exit.inBlock, Exit.then])
  refine bodyPost_ret (results_cell1 rfl _ rfl (b1.setRow _) Tryz.underlying49 rfl job_size) rfl ?_
  exact ⟨grow_row G1 _ _ (Nat.le_refl _), a1, l1, y1, rfl, Blk.setRow_far R1 (by omega) _, S1⟩
/-- What is left by Take. -/
def TakePostJ (p : List UInt8 → Res JobD) (w : World) (g : Nat) (l : List UInt8) (x many : Nat) (e : Ending) (w' : World) : Prop :=
  w.grownBy w' (some g) ∧ ∃ val xs l' y, e = .returned val ∧ OwnJ w' w.heap.size val xs ∧ Rd w' g l' y ∧ Step (pRows many p) l x xs l' y
set_option maxHeartbeats 4000000 in
set_option maxRecDepth 100000 in
theorem takeJ_any (t6 t3 : TypeId) (g6 g3 g x : Nat) (l : List UInt8) (v : Int) (many : Nat) (w : World) (h6 : Blk w g6 t6 #[.pointer (some ⟨g, 0, none⟩)]) (h3 : Blk w g3 t3 #[.int .i64 v]) (h6g : g6 ≠ g) (h3g : g3 ≠ g) (hR : Rd w g l x) (hl : l.length ≤ 4611686018427387904) (hT : Tabs w) (hmany : many ≤ 1000) :
    Calls Tryz.prog 33 #[.pointer (some ⟨g, 0, none⟩), .int .i64 (many : Int), .func (.func 34) #[] #[.pointer (some ⟨g6, 0, none⟩), .pointer (some ⟨g3, 0, none⟩)]] w fun e w' => TakePostJ (pJob v) w g l x many e w' := by
  have hglt := hR.lt
  go_enter Tryz.func33, Tryz.ntmps33
  go_wp2_with fail
  refine (rNumber_any g x l w hR).mono ?_
  rintro e w1 ⟨G1, n, l1, y1, rfl, R1, _, S1, hy1, hn⟩
  have T1 := hT.gw hR G1
  have hl1 := Nat.le_trans S1.1 hl
  have HS1 := Lib.hid S1
  have HT := Lib.hid (fun (w' : World) (h : w.grownBy w' (some g)) => hT.gw hR h)
  clear hT hR S1
  by_cases hm : many < n
  · have hmi : (many : Int) < (n : Int) := by omega
    have hy0 : y1 = 0 := by
      rcases Nat.eq_zero_or_pos y1 with h | h
      · exact h
      · exact absurd (hy1 (by omega)) (by omega)
    have h0n : (0 : Int) < (n : Int) := by omega
    have HN : Hid (many < n) := Lib.hid hm
    clear hy1 hn hm
    go_wp2_with fail
    refine (rFail_any g y1 2 l1 w1 R1).mono ?_
    rintro e w2 ⟨rfl, g2, R2⟩
    rw [if_pos hy0] at R2
    have c1 : w2.cell? ⟨g, 1, none⟩ = some (.int .i64 (2 : Int)) := R2.cell 1
    clear R1 T1
    go_wp2_with fail
    refine wp_loop_rounds 1 ?_
    rw [rounds_succ]
    go_wp2_with fail
    go_ret
    exact ⟨grow_trans G1 g2, _, [], l1, 2, rfl, World.ownsRow_nil _ _ _ _, R2, Step.many HS1.out (fun h => absurd hy0 h) HN.out (pJob_PP v).err⟩
  · have hmi : ¬ (many : Int) < (n : Int) := by omega
    have HN : Hid (n ≤ many) := Lib.hid (by omega)
    have HY := Lib.hid hy1
    clear hy1
    have hnm : n ≤ 1000 := by omega
    have hmd : decide (many < n) = false := decide_eq_false hm
    go_wp2_with fail
    go_loopw [8, 17] (fun out i wr => ∃ (k : Nat) (xs : List JobD) (l2 : List UInt8) (y : Nat), k ≤ n ∧ xs.length ≤ k ∧ i = .int .i64 k ∧ w.grownBy wr (some g) ∧ OwnJ wr w.heap.size out xs ∧ Rd wr g l2 y ∧ Tabs wr ∧ Hid (Step (pRep (pJob v) k) l1 y1 xs l2 y)) (fun _ i _ => n - (intOf i).toNat)
    case atStart => exact ⟨0, [], l1, y1, Nat.zero_le _, Nat.le_refl _, rfl, G1, World.ownsRow_nil _ _ _ _, R1, T1, Step.unit [] l1 y1⟩
    case round =>
      obtain ⟨k, xs, l2, y, hk, hxs, rfl, G2, O2, R2, T2, H2⟩ := hrel
      have c1 : wr.cell? ⟨g, 1, none⟩ = some (.int .i64 (y : Int)) := R2.cell 1
      by_cases hlt : k < n
      · have hki : (k : Int) < (n : Int) := by omega
        by_cases hy : y = 0
        · have hyb : ((y : Int) != 0) = false := by rw [hy]; rfl
          have hl2 : l2.length ≤ 4611686018427387904 := Nat.le_trans H2.out.1 hl1
          have HC := Lib.hid (show Calls Tryz.prog 34 #[.pointer (some ⟨g6, 0, none⟩), .pointer (some ⟨g3, 0, none⟩)] wr (fun e w' => RdP (fun j : JobD => .agg #[.string j.name, .int .i64 j.prio, .int .i64 j.need, .int .i64 j.tries, .string j.tag]) (pJob v) wr g l2 y e w') from (cloJ_any t6 t3 g6 g3 g y l2 v wr (h6.gw G2 h6g) (h3.gw G2 h3g) R2 hl2 T2))
          go_wp2_with fail
          refine HC.out.mono ?_
          rintro e w3 ⟨g3', a3, l3, y3, rfl, R3, S3⟩
          have G3 := grow_alloc (grow_trans G2 g3') (.cells #[.string a3.name, .int .i64 a3.prio, .int .i64 a3.need, .int .i64 a3.tries, .string a3.tag] 49)
          have O4 : OwnJ (w3.alloc (.cells #[.string a3.name, .int .i64 a3.prio, .int .i64 a3.need, .int .i64 a3.tries, .string a3.tag] 49)) w.heap.size _ xs := World.ownsRow.alloc (O2.gw g3' hglt) _
          have bE := Blk.new w3 49 #[.string a3.name, .int .i64 a3.prio, .int .i64 a3.need, .int .i64 a3.tries, .string a3.tag]
          have R4 : Rd (w3.alloc (.cells #[.string a3.name, .int .i64 a3.prio, .int .i64 a3.need, .int .i64 a3.tries, .string a3.tag] 49)) g l3 y3 := Blk.alloc R3 _
          have HS3 := Lib.hid S3
          have hsz3 : w.heap.size ≤ (w3.alloc (.cells #[.string a3.name, .int .i64 a3.prio, .int .i64 a3.need, .int .i64 a3.tries, .string a3.tag] 49)).heap.size := G3.size
          clear R3 g3' O2 G2 R2 T2 S3 c1 HC
          go_wp2_with (first
            | (at_builtin; go_loud (refine wpList_append_J rfl _ _ rfl w.heap.size _ xs rfl O4 w3.heap.size a3 rfl bE (by omega) hsz3 ?_)))
          intro v4 w4 O5 hb4
          have G5 := grow_base G3 hb4
          have R5 : Rd w4 g l3 y3 := Blk.below R4 hb4 hglt
          have T5 := HT.out w4 G5
          clear O4 bE R4 G3 hb4
          go_wp2_with fail
          go_roundw
          case rel => exact ⟨k + 1, xs ++ [a3], l3, y3, by omega, by simp; omega, by go_num, G5, O5, R5, T5, Step.snoc H2.out HS3.out (PP.rep (pJob_PP v) k).err⟩
          case measure => simp [intOf]; omega
        · have hyb : ((y : Int) != 0) = true := by rw [bne_iff_ne]; omega
          go_wp2_with fail
          go_ret
          exact ⟨G2, _, [], l2, y, rfl, World.ownsRow_nil _ _ _ _, R2, Step.rows HS1.out HY.out HN.out (Step.early (Nat.le_of_lt hlt) H2.out hy (pJob_PP v))⟩
      · obtain rfl : k = n := by omega
        have hki : ¬ (k : Int) < (k : Int) := by omega
        go_wp2_with fail
        go_ret
        exact ⟨G2, _, xs, l2, y, rfl, O2, R2, Step.rows HS1.out HY.out HN.out H2.out⟩
end Go.Proofs.YtdicoepjkngikaaGreatDoor

/-
  Contracts of wire.Take: NodeD. Printed by wip/gen_take.py.
-/
set_option linter.unusedVariables false
set_option linter.unusedSimpArgs false
namespace Go.Proofs.YtdicoepjkngikaaGreatDoor
open Go.RowKit
theorem node_infoT : (Tryz.prog.info? 54).map (fun i => (i.zero, i.size, i.bytes)) = some (some (.agg #[.string ByteArray.empty, .int .i64 0, .string ByteArray.empty]), 3, 40) := by kernel_rfl
/-- Rows of the call's own. -/
def OwnN (w : World) (base : Nat) (v : Value) (l : List NodeD) : Prop := w.ownsRow base 54 3 v l.length (l.flatMap rowN)
theorem OwnN.gw {a b : World} {base g : Nat} {v : Value} {l : List NodeD} (h : OwnN a base v l) (hg : a.grownBy b (some g)) (hlt : g < base) : OwnN b base v l :=
  World.ownsRow.kept (row := some g) h ⟨hg.os, hg.tape, hg.output, hg.size, hg.block⟩ (.inr (fun h0 => by have := (World.ownsRow.lt h g h0).1; omega))
section
variable {w : World} {ops : Array Oper} {rest : List Oper} {o : Oper} {a : Act} {Q : Exit → Act → World → Prop}
theorem wpList_append_N (hgd : o.guard = none) (s x : Operand)
    (ho : o.op = .call { callee := .builtin .append, args := #[s, x], argTypes := #[23, 23] })
    (base : Nat) (v : Value) (acc : List NodeD) (hs : a.eval s = v) (hown : OwnN w base v acc) (g : Nat) (j : NodeD) (hx : a.eval x = .slice (some ⟨g, 0, none⟩) 1 1)
    (hb : Blk w g 54 (rowN j).toArray) (hlen : acc.length + 1 ≤ 1099511627776) (hbase : base ≤ w.heap.size)
    (h : ∀ v' w', OwnN w' base v' (acc ++ [j]) → Below base w w' → wpList Tryz.prog ops Q rest (a.put o.dst v') w') : wpList Tryz.prog ops Q (o :: rest) a w := by
  obtain ⟨i0, hi, hz0, hz1, hz2⟩ := info_parts node_infoT
  refine wpList_append_own w hgd s x 23 ho base 54 i0 _ 3 40 Tryz.underlying23 hi hz0 hz1 hz2 rfl (by decide) v acc.length (acc.flatMap rowN) hs hown ⟨g, 0, none⟩ 1 1 (rowN j) hx rfl ?_ ?_ ?_ ?_ hbase ?_
  · exact World.news_of_block hb
  · simp [rowN, Value.oneCell']
  · simp only [maxLen]; omega
  · omega
  · intro v' w' hown' hg _
    refine h v' w' ?_ ?_
    · unfold OwnN
      rw [List.flatMap_append, List.length_append]
      simpa using hown'
    · exact (Below.refl base w).grown hg hbase (fun k hk => (World.ownsRow.lt hown k hk).1)
end
set_option maxHeartbeats 1000000 in
set_option maxRecDepth 100000 in
theorem cloN_any (t6 t3 : TypeId) (g6 g3 g x : Nat) (l : List UInt8) (v : Int) (w : World) (h6 : Blk w g6 t6 #[.pointer (some ⟨g, 0, none⟩)]) (h3 : Blk w g3 t3 #[.int .i64 v]) (hR : Rd w g l x) (hl : l.length ≤ 4611686018427387904) (hT : Tabs w) :
    Calls Tryz.prog 37 #[.pointer (some ⟨g6, 0, none⟩), .pointer (some ⟨g3, 0, none⟩)] w fun e w' => RdP (fun j : NodeD => .agg (rowN j).toArray) (pNode v) w g l x e w' := by
  have hglt := hR.lt
  go_enter Tryz.func37, Tryz.ntmps37
  have bC := Blk.new w 54 #[Value.string (ByteArray.mk #[]), Value.int .i64 0, Value.string (ByteArray.mk #[])]
  have R0 : Rd (w.alloc (.cells #[Value.string (ByteArray.mk #[]), Value.int .i64 0, Value.string (ByteArray.mk #[])] 54)) g l x := Blk.alloc hR _
  have T0 : Tabs (w.alloc (.cells #[Value.string (ByteArray.mk #[]), Value.int .i64 0, Value.string (ByteArray.mk #[])] 54)) := hT.below ((Below.refl _ _).alloc (Nat.le_refl _) _)
  have G0 : w.grownBy (w.alloc (.cells #[Value.string (ByteArray.mk #[]), Value.int .i64 0, Value.string (ByteArray.mk #[])] 54)) (some g) := grow_alloc (grow_refl _ _) _
  have c6 : (w.alloc (.cells #[Value.string (ByteArray.mk #[]), Value.int .i64 0, Value.string (ByteArray.mk #[])] 54)).cell? ⟨g6, 0, none⟩ = some (.pointer (some ⟨g, 0, none⟩)) := (h6.alloc _).cell 0
  have c3 : (w.alloc (.cells #[Value.string (ByteArray.mk #[]), Value.int .i64 0, Value.string (ByteArray.mk #[])] 54)).cell? ⟨g3, 0, none⟩ = some (.int .i64 v) := (h3.alloc _).cell 0
  clear hR hT
  go_wp2_with fail
  generalize w.alloc (.cells #[Value.string (ByteArray.mk #[]), Value.int .i64 0, Value.string (ByteArray.mk #[])] 54) = W0 at *
  refine (rNode_any g x l v W0 R0 hl T0).mono ?_
  rintro e w1 ⟨g1, a1, l1, y1, rfl, R1, S1⟩
  have b1 := bC.gw g1 (by omega)
  have G1 := grow_trans G0 g1
  clear bC R0 T0 G0 g1 c6 c3
  go_wp2_with (refine wpList_store_blk rfl _ _ _ rfl w.heap.size rfl _ _ (rowN a1).toArray b1 rfl node_size rfl (one_rowN _) ?_)
  (try simp only [Exit.inBlock, Exit.then])
  refine bodyPost_ret (results_cell1 rfl _ rfl (b1.setRow _) Tryz.underlying54 rfl node_size) rfl ?_
  exact ⟨grow_row G1 _ _ (Nat.le_refl _), a1, l1, y1, rfl, Blk.setRow_far R1 (by omega) _, S1⟩
/-- What is left by Take. -/
def TakePostN (p : List UInt8 → Res NodeD) (w : World) (g : Nat) (l : List UInt8) (x many : Nat) (e : Ending) (w' : World) : Prop :=
  w.grownBy w' (some g) ∧ ∃ val xs l' y, e = .returned val ∧ OwnN w' w.heap.size val xs ∧ Rd w' g l' y ∧ Step (pRows many p) l x xs l' y
set_option maxHeartbeats 4000000 in
set_option maxRecDepth 100000 in
theorem takeN_any (t6 t3 : TypeId) (g6 g3 g x : Nat) (l : List UInt8) (v : Int) (many : Nat) (w : World) (h6 : Blk w g6 t6 #[.pointer (some ⟨g, 0, none⟩)]) (h3 : Blk w g3 t3 #[.int .i64 v]) (h6g : g6 ≠ g) (h3g : g3 ≠ g) (hR : Rd w g l x) (hl : l.length ≤ 4611686018427387904) (hT : Tabs w) (hmany : many ≤ 1000) :
    Calls Tryz.prog 36 #[.pointer (some ⟨g, 0, none⟩), .int .i64 (many : Int), .func (.func 37) #[] #[.pointer (some ⟨g6, 0, none⟩), .pointer (some ⟨g3, 0, none⟩)]] w fun e w' => TakePostN (pNode v) w g l x many e w' := by
  have hglt := hR.lt
  go_enter Tryz.func36, Tryz.ntmps36
  go_wp2_with fail
  refine (rNumber_any g x l w hR).mono ?_
  rintro e w1 ⟨G1, n, l1, y1, rfl, R1, _, S1, hy1, hn⟩
  have T1 := hT.gw hR G1
  have hl1 := Nat.le_trans S1.1 hl
  have HS1 := Lib.hid S1
  have HT := Lib.hid (fun (w' : World) (h : w.grownBy w' (some g)) => hT.gw hR h)
  clear hT hR S1
  by_cases hm : many < n
  · have hmi : (many : Int) < (n : Int) := by omega
    have hy0 : y1 = 0 := by
      rcases Nat.eq_zero_or_pos y1 with h | h
      · exact h
      · exact absurd (hy1 (by omega)) (by omega)
    have h0n : (0 : Int) < (n : Int) := by omega
    have HN : Hid (many < n) := Lib.hid hm
    clear hy1 hn hm
    go_wp2_with fail
    refine (rFail_any g y1 2 l1 w1 R1).mono ?_
    rintro e w2 ⟨rfl, g2, R2⟩
    rw [if_pos hy0] at R2
    have c1 : w2.cell? ⟨g, 1, none⟩ = some (.int .i64 (2 : Int)) := R2.cell 1
    clear R1 T1
    go_wp2_with fail
    refine wp_loop_rounds 1 ?_
    rw [rounds_succ]
    go_wp2_with fail
    go_ret
    exact ⟨grow_trans G1 g2, _, [], l1, 2, rfl, World.ownsRow_nil _ _ _ _, R2, Step.many HS1.out (fun h => absurd hy0 h) HN.out (pNode_PP v).err⟩
  · have hmi : ¬ (many : Int) < (n : Int) := by omega
    have HN : Hid (n ≤ many) := Lib.hid (by omega)
    have HY := Lib.hid hy1
    clear hy1
    have hnm : n ≤ 1000 := by omega
    have hmd : decide (many < n) = false := decide_eq_false hm
    go_wp2_with fail
    go_loopw [8, 17] (fun out i wr => ∃ (k : Nat) (xs : List NodeD) (l2 : List UInt8) (y : Nat), k ≤ n ∧ xs.length ≤ k ∧ i = .int .i64 k ∧ w.grownBy wr (some g) ∧ OwnN wr w.heap.size out xs ∧ Rd wr g l2 y ∧ Tabs wr ∧ Hid (Step (pRep (pNode v) k) l1 y1 xs l2 y)) (fun _ i _ => n - (intOf i).toNat)
    case atStart => exact ⟨0, [], l1, y1, Nat.zero_le _, Nat.le_refl _, rfl, G1, World.ownsRow_nil _ _ _ _, R1, T1, Step.unit [] l1 y1⟩
    case round =>
      obtain ⟨k, xs, l2, y, hk, hxs, rfl, G2, O2, R2, T2, H2⟩ := hrel
      have c1 : wr.cell? ⟨g, 1, none⟩ = some (.int .i64 (y : Int)) := R2.cell 1
      by_cases hlt : k < n
      · have hki : (k : Int) < (n : Int) := by omega
        by_cases hy : y = 0
        · have hyb : ((y : Int) != 0) = false := by rw [hy]; rfl
          have hl2 : l2.length ≤ 4611686018427387904 := Nat.le_trans H2.out.1 hl1
          have HC := Lib.hid (show Calls Tryz.prog 37 #[.pointer (some ⟨g6, 0, none⟩), .pointer (some ⟨g3, 0, none⟩)] wr (fun e w' => RdP (fun j : NodeD => .agg #[.string j.name, .int .i64 j.room, .string j.zone]) (pNode v) wr g l2 y e w') from (cloN_any t6 t3 g6 g3 g y l2 v wr (h6.gw G2 h6g) (h3.gw G2 h3g) R2 hl2 T2))
          go_wp2_with fail
          refine HC.out.mono ?_
          rintro e w3 ⟨g3', a3, l3, y3, rfl, R3, S3⟩
          have G3 := grow_alloc (grow_trans G2 g3') (.cells #[.string a3.name, .int .i64 a3.room, .string a3.zone] 54)
          have O4 : OwnN (w3.alloc (.cells #[.string a3.name, .int .i64 a3.room, .string a3.zone] 54)) w.heap.size _ xs := World.ownsRow.alloc (O2.gw g3' hglt) _
          have bE := Blk.new w3 54 #[.string a3.name, .int .i64 a3.room, .string a3.zone]
          have R4 : Rd (w3.alloc (.cells #[.string a3.name, .int .i64 a3.room, .string a3.zone] 54)) g l3 y3 := Blk.alloc R3 _
          have HS3 := Lib.hid S3
          have hsz3 : w.heap.size ≤ (w3.alloc (.cells #[.string a3.name, .int .i64 a3.room, .string a3.zone] 54)).heap.size := G3.size
          clear R3 g3' O2 G2 R2 T2 S3 c1 HC
          go_wp2_with (first
            | (at_builtin; go_loud (refine wpList_append_N rfl _ _ rfl w.heap.size _ xs rfl O4 w3.heap.size a3 rfl bE (by omega) hsz3 ?_)))
          intro v4 w4 O5 hb4
          have G5 := grow_base G3 hb4
          have R5 : Rd w4 g l3 y3 := Blk.below R4 hb4 hglt
          have T5 := HT.out w4 G5
          clear O4 bE R4 G3 hb4
          go_wp2_with fail
          go_roundw
          case rel => exact ⟨k + 1, xs ++ [a3], l3, y3, by omega, by simp; omega, by go_num, G5, O5, R5, T5, Step.snoc H2.out HS3.out (PP.rep (pNode_PP v) k).err⟩
          case measure => simp [intOf]; omega
        · have hyb : ((y : Int) != 0) = true := by rw [bne_iff_ne]; omega
          go_wp2_with fail
          go_ret
          exact ⟨G2, _, [], l2, y, rfl, World.ownsRow_nil _ _ _ _, R2, Step.rows HS1.out HY.out HN.out (Step.early (Nat.le_of_lt hlt) H2.out hy (pNode_PP v))⟩
      · obtain rfl : k = n := by omega
        have hki : ¬ (k : Int) < (k : Int) := by omega
        go_wp2_with fail
        go_ret
        exact ⟨G2, _, xs, l2, y, rfl, O2, R2, Step.rows HS1.out HY.out HN.out H2.out⟩
end Go.Proofs.YtdicoepjkngikaaGreatDoor
