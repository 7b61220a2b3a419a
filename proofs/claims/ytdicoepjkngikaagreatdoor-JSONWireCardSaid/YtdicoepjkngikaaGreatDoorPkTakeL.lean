/-
  Several texts in one: TakeL.
-/
import Derived.Test.YtdicoepjkngikaaGreatDoorPkRead
import Derived.Lib.AppendStr
/-
  Contracts of wire.Take: LeaseD. Printed by wip/gen_take.py.
-/
set_option linter.unusedVariables false
set_option linter.unusedSimpArgs false
namespace Go.Proofs.YtdicoepjkngikaaGreatDoor
open Go.RowKit
theorem lease_infoT : (Tryz.prog.info? 59).map (fun i => (i.zero, i.size, i.bytes)) = some (some (.agg #[.string ByteArray.empty, .string ByteArray.empty, .int .i64 0]), 3, 40) := by kernel_rfl
/-- Rows of the call's own. -/
def OwnL (w : World) (base : Nat) (v : Value) (l : List LeaseD) : Prop := w.ownsRow base 59 3 v l.length (l.flatMap rowL)
theorem OwnL.gw {a b : World} {base g : Nat} {v : Value} {l : List LeaseD} (h : OwnL a base v l) (hg : a.grownBy b (some g)) (hlt : g < base) : OwnL b base v l :=
  World.ownsRow.kept (row := some g) h ⟨hg.os, hg.tape, hg.output, hg.size, hg.block⟩ (.inr (fun h0 => by have := (World.ownsRow.lt h g h0).1; omega))
section
variable {w : World} {ops : Array Oper} {rest : List Oper} {o : Oper} {a : Act} {Q : Exit → Act → World → Prop}
theorem wpList_append_L (hgd : o.guard = none) (s x : Operand)
    (ho : o.op = .call { callee := .builtin .append, args := #[s, x], argTypes := #[24, 24] })
    (base : Nat) (v : Value) (acc : List LeaseD) (hs : a.eval s = v) (hown : OwnL w base v acc) (g : Nat) (j : LeaseD) (hx : a.eval x = .slice (some ⟨g, 0, none⟩) 1 1)
    (hb : Blk w g 59 (rowL j).toArray) (hlen : acc.length + 1 ≤ 1099511627776) (hbase : base ≤ w.heap.size)
    (h : ∀ v' w', OwnL w' base v' (acc ++ [j]) → Below base w w' → wpList Tryz.prog ops Q rest (a.put o.dst v') w') : wpList Tryz.prog ops Q (o :: rest) a w := by
  obtain ⟨i0, hi, hz0, hz1, hz2⟩ := info_parts lease_infoT
  refine wpList_append_own w hgd s x 24 ho base 59 i0 _ 3 40 Tryz.underlying24 hi hz0 hz1 hz2 rfl (by decide) v acc.length (acc.flatMap rowL) hs hown ⟨g, 0, none⟩ 1 1 (rowL j) hx rfl ?_ ?_ ?_ ?_ hbase ?_
  · exact World.news_of_block hb
  · simp [rowL, Value.oneCell']
  · simp only [maxLen]; omega
  · omega
  · intro v' w' hown' hg _
    refine h v' w' ?_ ?_
    · unfold OwnL
      rw [List.flatMap_append, List.length_append]
      simpa using hown'
    · exact (Below.refl base w).grown hg hbase (fun k hk => (World.ownsRow.lt hown k hk).1)
end
/-- What is left by Take. -/
def TakePostL (p : List UInt8 → Res LeaseD) (w : World) (g : Nat) (l : List UInt8) (x many : Nat) (e : Ending) (w' : World) : Prop :=
  w.grownBy w' (some g) ∧ ∃ val xs l' y, e = .returned val ∧ OwnL w' w.heap.size val xs ∧ Rd w' g l' y ∧ Step (pRows many p) l x xs l' y
set_option maxHeartbeats 4000000 in
set_option maxRecDepth 100000 in
theorem takeL_any (g x : Nat) (l : List UInt8) (many : Nat) (w : World) (hR : Rd w g l x) (hl : l.length ≤ 4611686018427387904) (hT : Tabs w) (hmany : many ≤ 1000) :
    Calls Tryz.prog 39 #[.pointer (some ⟨g, 0, none⟩), .int .i64 (many : Int), .func (.func 40) #[.pointer (some ⟨g, 0, none⟩)] #[]] w fun e w' => TakePostL pLease w g l x many e w' := by
  have hglt := hR.lt
  go_enter Tryz.func39, Tryz.ntmps39
  go_wp2_with fail
  refine (rNumber_any g x l w hR).mono ?_
  rintro e w1 ⟨G1, n, l1, y1, rfl, R1, _, S1, hy1, hn⟩
  have T1 := hT.gw hR G1
  have hl1 := Nat.le_trans S1.1 hl
  have HS1 := Lib.hid S1
  have HT := Lib.hid (fun (w' : World) (h : w.grownBy w' (some g)) => hT.gw hR h)
  clear hT hR S1
  by_cases hm : many < n
  · have hmi : (many : Int) < (n : Int) := by omega
    have hy0 : y1 = 0 := by
      rcases Nat.eq_zero_or_pos y1 with h | h
      · exact h
      · exact absurd (hy1 (by omega)) (by omega)
    have h0n : (0 : Int) < (n : Int) := by omega
    have HN : Hid (many < n) := Lib.hid hm
    clear hy1 hn hm
    go_wp2_with fail
    refine (rFail_any g y1 2 l1 w1 R1).mono ?_
    rintro e w2 ⟨rfl, g2, R2⟩
    rw [if_pos hy0] at R2
    have c1 : w2.cell? ⟨g, 1, none⟩ = some (.int .i64 (2 : Int)) := R2.cell 1
    clear R1 T1
    go_wp2_with fail
    refine wp_loop_rounds 1 ?_
    rw [rounds_succ]
    go_wp2_with fail
    go_ret
    exact ⟨grow_trans G1 g2, _, [], l1, 2, rfl, World.ownsRow_nil _ _ _ _, R2, Step.many HS1.out (fun h => absurd hy0 h) HN.out pLease_PP.err⟩
  · have hmi : ¬ (many : Int) < (n : Int) := by omega
    have HN : Hid (n ≤ many) := Lib.hid (by omega)
    have HY := Lib.hid hy1
    clear hy1
    have hnm : n ≤ 1000 := by omega
    have hmd : decide (many < n) = false := decide_eq_false hm
    go_wp2_with fail
    go_loopw [8, 17] (fun out i wr => ∃ (k : Nat) (xs : List LeaseD) (l2 : List UInt8) (y : Nat), k ≤ n ∧ xs.length ≤ k ∧ i = .int .i64 k ∧ w.grownBy wr (some g) ∧ OwnL wr w.heap.size out xs ∧ Rd wr g l2 y ∧ Tabs wr ∧ Hid (Step (pRep pLease k) l1 y1 xs l2 y)) (fun _ i _ => n - (intOf i).toNat)
    case atStart => exact ⟨0, [], l1, y1, Nat.zero_le _, Nat.le_refl _, rfl, G1, World.ownsRow_nil _ _ _ _, R1, T1, Step.unit [] l1 y1⟩
    case round =>
      obtain ⟨k, xs, l2, y, hk, hxs, rfl, G2, O2, R2, T2, H2⟩ := hrel
      have c1 : wr.cell? ⟨g, 1, none⟩ = some (.int .i64 (y : Int)) := R2.cell 1
      by_cases hlt : k < n
      · have hki : (k : Int) < (n : Int) := by omega
        by_cases hy : y = 0
        · have hyb : ((y : Int) != 0) = false := by rw [hy]; rfl
          have hl2 : l2.length ≤ 4611686018427387904 := Nat.le_trans H2.out.1 hl1
          have HC := Lib.hid (show Calls Tryz.prog 40 #[.pointer (some ⟨g, 0, none⟩)] wr (fun e w' => RdP (fun j : LeaseD => .agg #[.string j.job, .string j.node, .int .i64 j.till]) pLease wr g l2 y e w') from (rLease_any g y l2 wr R2 hl2 T2))
          go_wp2_with fail
          refine HC.out.mono ?_
          rintro e w3 ⟨g3', a3, l3, y3, rfl, R3, S3⟩
          have G3 := grow_alloc (grow_trans G2 g3') (.cells #[.string a3.job, .string a3.node, .int .i64 a3.till] 59)
          have O4 : OwnL (w3.alloc (.cells #[.string a3.job, .string a3.node, .int .i64 a3.till] 59)) w.heap.size _ xs := World.ownsRow.alloc (O2.gw g3' hglt) _
          have bE := Blk.new w3 59 #[.string a3.job, .string a3.node, .int .i64 a3.till]
          have R4 : Rd (w3.alloc (.cells #[.string a3.job, .string a3.node, .int .i64 a3.till] 59)) g l3 y3 := Blk.alloc R3 _
          have HS3 := Lib.hid S3
          have hsz3 : w.heap.size ≤ (w3.alloc (.cells #[.string a3.job, .string a3.node, .int .i64 a3.till] 59)).heap.size := G3.size
          clear R3 g3' O2 G2 R2 T2 S3 c1 HC
          go_wp2_with (first
            | (at_builtin; go_loud (refine wpList_append_L rfl _ _ rfl w.heap.size _ xs rfl O4 w3.heap.size a3 rfl bE (by omega) hsz3 ?_)))
          intro v4 w4 O5 hb4
          have G5 := grow_base G3 hb4
          have R5 : Rd w4 g l3 y3 := Blk.below R4 hb4 hglt
          have T5 := HT.out w4 G5
          clear O4 bE R4 G3 hb4
          go_wp2_with fail
          go_roundw
          case rel => exact ⟨k + 1, xs ++ [a3], l3, y3, by omega, by simp; omega, by go_num, G5, O5, R5, T5, Step.snoc H2.out HS3.out (PP.rep pLease_PP k).err⟩
          case measure => simp [intOf]; omega
        · have hyb : ((y : Int) != 0) = true := by rw [bne_iff_ne]; omega
          go_wp2_with fail
          go_ret
          exact ⟨G2, _, [], l2, y, rfl, World.ownsRow_nil _ _ _ _, R2, Step.rows HS1.out HY.out HN.out (Step.early (Nat.le_of_lt hlt) H2.out hy pLease_PP)⟩
      · obtain rfl : k = n := by omega
        have hki : ¬ (k : Int) < (k : Int) := by omega
        go_wp2_with fail
        go_ret
        exact ⟨G2, _, xs, l2, y, rfl, O2, R2, Step.rows HS1.out HY.out HN.out H2.out⟩
end Go.Proofs.YtdicoepjkngikaaGreatDoor
