/-
  The laws' own facts 'sample', 'stated' of the states.
-/
import Derived.Test.YtbjngeaoimaooaaDoorStateW
set_option linter.unusedVariables false
set_option linter.unusedSimpArgs false
namespace Go.Proofs.YtbjngeaoimaooaaDoor
open Go.RowKit
def sampleS : St := ⟨4, [⟨⟨#[97]⟩, 0, 3, 0, ByteArray.empty⟩, ⟨⟨#[98]⟩, 0, 2, 0, ⟨#[120]⟩⟩], [⟨⟨#[110]⟩, 4, ByteArray.empty⟩], [⟨⟨#[97]⟩, ⟨#[110]⟩, 9⟩]⟩
theorem zero_state_lit (W : World) : (zeroValue 33).run Tryd.prog W = .ok (.agg #[.int .i64 0, .slice none 0 0, .slice none 0 0, .slice none 0 0]) W := by kernel_rfl
theorem zero_lease_lit (W : World) : (zeroValue 43).run Tryd.prog W = .ok (.agg #[.string ByteArray.empty, .string ByteArray.empty, .int .i64 0]) W := by kernel_rfl
theorem state_size : (Tryd.prog.info? 33).map (·.size) = some 4 := by kernel_rfl
def SamplePost (w : World) (e : Ending) (w' : World) : Prop :=
  ∃ bj bn bl, e = .returned (.agg #[.int .i64 4, .slice (some ⟨bj, 0, none⟩) 2 2, .slice (some ⟨bn, 0, none⟩) 1 1, .slice (some ⟨bl, 0, none⟩) 1 1]) ∧
    Blk w' bj 37 #[.string ⟨#[97]⟩, .int .i64 0, .int .i64 3, .int .i64 0, .string ByteArray.empty, .string ⟨#[98]⟩, .int .i64 0, .int .i64 2, .int .i64 0, .string ⟨#[120]⟩] ∧
    Blk w' bn 40 #[.string ⟨#[110]⟩, .int .i64 4, .string ByteArray.empty] ∧ Blk w' bl 43 #[.string ⟨#[97]⟩, .string ⟨#[110]⟩, .int .i64 9] ∧ Below w.heap.size w w' ∧ w.heap.size ≤ bl
set_option maxHeartbeats 2000000 in
set_option maxRecDepth 100000 in
theorem sample_any (w : World) : Calls Tryd.prog 34 #[] w fun e w' => SamplePost w e w' := by
  have hzj := zero_job_lit
  have hzn := zero_node_lit
  have hzl := zero_lease_lit
  have hzs := zero_state_lit
  go_enter Tryd.func34, Tryd.ntmps34
  go_wp2_with fail
  have s1 : (w.alloc (.cells #[.int .i64 4, .slice (some ⟨w.heap.size + 1, 0, none⟩) 2 2, .slice (some ⟨w.heap.size + 1 + 1, 0, none⟩) 1 1, .slice (some ⟨w.heap.size + 1 + 1 + 1, 0, none⟩) 1 1] 33)).heap.size = w.heap.size + 1 := by simp
  have b0 := Blk.new w 33 #[.int .i64 4, .slice (some ⟨w.heap.size + 1, 0, none⟩) 2 2, .slice (some ⟨w.heap.size + 1 + 1, 0, none⟩) 1 1, .slice (some ⟨w.heap.size + 1 + 1 + 1, 0, none⟩) 1 1]
  have hB := (Below.refl w.heap.size w).alloc (Nat.le_refl _) (.cells #[.int .i64 4, .slice (some ⟨w.heap.size + 1, 0, none⟩) 2 2, .slice (some ⟨w.heap.size + 1 + 1, 0, none⟩) 1 1, .slice (some ⟨w.heap.size + 1 + 1 + 1, 0, none⟩) 1 1] 33)
  generalize w.alloc (.cells #[.int .i64 4, .slice (some ⟨w.heap.size + 1, 0, none⟩) 2 2, .slice (some ⟨w.heap.size + 1 + 1, 0, none⟩) 1 1, .slice (some ⟨w.heap.size + 1 + 1 + 1, 0, none⟩) 1 1] 33) = W1 at *
  have b1 := Blk.new W1 37 #[.string ⟨#[97]⟩, .int .i64 0, .int .i64 3, .int .i64 0, .string ByteArray.empty, .string ⟨#[98]⟩, .int .i64 0, .int .i64 2, .int .i64 0, .string ⟨#[120]⟩]
  have b2 := Blk.new (W1.alloc (.cells #[.string ⟨#[97]⟩, .int .i64 0, .int .i64 3, .int .i64 0, .string ByteArray.empty, .string ⟨#[98]⟩, .int .i64 0, .int .i64 2, .int .i64 0, .string ⟨#[120]⟩] 37)) 40 #[.string ⟨#[110]⟩, .int .i64 4, .string ByteArray.empty]
  have b3 := Blk.new ((W1.alloc (.cells #[.string ⟨#[97]⟩, .int .i64 0, .int .i64 3, .int .i64 0, .string ByteArray.empty, .string ⟨#[98]⟩, .int .i64 0, .int .i64 2, .int .i64 0, .string ⟨#[120]⟩] 37)).alloc (.cells #[.string ⟨#[110]⟩, .int .i64 4, .string ByteArray.empty] 40)) 43 #[.string ⟨#[97]⟩, .string ⟨#[110]⟩, .int .i64 9]
  rw [s1] at b1
  rw [show (W1.alloc (.cells #[.string ⟨#[97]⟩, .int .i64 0, .int .i64 3, .int .i64 0, .string ByteArray.empty, .string ⟨#[98]⟩, .int .i64 0, .int .i64 2, .int .i64 0, .string ⟨#[120]⟩] 37)).heap.size = w.heap.size + 1 + 1 by rw [← s1]; simp] at b2
  rw [show ((W1.alloc (.cells #[.string ⟨#[97]⟩, .int .i64 0, .int .i64 3, .int .i64 0, .string ByteArray.empty, .string ⟨#[98]⟩, .int .i64 0, .int .i64 2, .int .i64 0, .string ⟨#[120]⟩] 37)).alloc (.cells #[.string ⟨#[110]⟩, .int .i64 4, .string ByteArray.empty] 40)).heap.size = w.heap.size + 1 + 1 + 1 by rw [← s1]; simp] at b3
  refine bodyPost_ret (results_cell1 rfl _ rfl (((b0.alloc _).alloc _).alloc _) Tryd.underlying33 rfl state_size) rfl ?_
  exact ⟨_, _, _, rfl, (b1.alloc _).alloc _, b2.alloc _, b3, ((hB.alloc hB.size _).alloc (Nat.le_trans hB.size (by simp)) _).alloc (Nat.le_trans hB.size (by simp; omega)) _, by omega⟩
theorem Elts.of_blk {w : World} {g size : Nat} {t : TypeId} {cs : Array Value} {rows : List (List Value)} (hs : ∀ r ∈ rows, r.length = size) (h : Blk w g t cs) (hc : cs.toList = rows.flatten) : Elts w w.heap.size size (some ⟨g, 0, none⟩) rows :=
  Elts.of_reads hs ⟨flat_len hs, fun _ => ⟨⟨g, 0, none⟩, rfl, h.lt, by rw [← hc]; exact At.blk h⟩⟩ rfl
def sampleT : St := { sampleS with leases := sampleS.leases ++ [⟨⟨#[98]⟩, ⟨#[110]⟩, 0⟩] }
theorem sample_used : usedR sampleS ⟨#[110]⟩ = (3, 0) := by decide +kernel
theorem sample_check : checkE sampleT = 9 := by decide +kernel
theorem sampleS_sz : StSz sampleS := by
  refine ⟨?_, ?_, ?_, by decide, by decide, by decide⟩
  all_goals decide +kernel
theorem sampleT_sz : StSz sampleT := by
  refine ⟨?_, ?_, ?_, by decide, by decide, by decide⟩
  all_goals decide +kernel
theorem lease_info : (Tryd.prog.info? 43).map (fun i => (i.zero, i.size, i.bytes)) = some (some (.agg #[.string ByteArray.empty, .string ByteArray.empty, .int .i64 0]), 3, 40) := by kernel_rfl
set_option maxHeartbeats 2000000 in
set_option maxRecDepth 100000 in
theorem stated_any (w : World) (hT : Tabs w) : Calls Tryd.prog 14 #[] w fun e w' => e = .returned (.bool true) ∧ Below w.heap.size w w' := by
  have hzs := zero_state_lit
  have hzl := zero_lease_lit
  obtain ⟨i0, hi, hz0, hz1, hz2⟩ := info_parts lease_info
  go_enter Tryd.func14, Tryd.ntmps14
  go_wp2_with fail
  refine (sample_any _).mono ?_
  rintro e w1 ⟨bj, bn, bl, rfl, b1, b2, b3, hb1, hbl⟩
  have hB2 := hb1.alloc hb1.size (.cells #[.int .i64 4, .slice (some ⟨bj, 0, none⟩) 2 2, .slice (some ⟨bn, 0, none⟩) 1 1, .slice (some ⟨bl, 0, none⟩) 1 1] 33)
  have bs := Blk.new w1 33 #[.int .i64 4, .slice (some ⟨bj, 0, none⟩) 2 2, .slice (some ⟨bn, 0, none⟩) 1 1, .slice (some ⟨bl, 0, none⟩) 1 1]
  have b1' := b1.alloc (.cells #[.int .i64 4, .slice (some ⟨bj, 0, none⟩) 2 2, .slice (some ⟨bn, 0, none⟩) 1 1, .slice (some ⟨bl, 0, none⟩) 1 1] 33)
  have b2' := b2.alloc (.cells #[.int .i64 4, .slice (some ⟨bj, 0, none⟩) 2 2, .slice (some ⟨bn, 0, none⟩) 1 1, .slice (some ⟨bl, 0, none⟩) 1 1] 33)
  have b3' := b3.alloc (.cells #[.int .i64 4, .slice (some ⟨bj, 0, none⟩) 2 2, .slice (some ⟨bn, 0, none⟩) 1 1, .slice (some ⟨bl, 0, none⟩) 1 1] 33)
  have hg1 := b3.lt
  clear b1 b2 b3 hb1
  have hm : StM (w1.alloc (.cells #[.int .i64 4, .slice (some ⟨bj, 0, none⟩) 2 2, .slice (some ⟨bn, 0, none⟩) 1 1, .slice (some ⟨bl, 0, none⟩) 1 1] 33)) _ (some ⟨bj, 0, none⟩) (some ⟨bn, 0, none⟩) (some ⟨bl, 0, none⟩) sampleS :=
    ⟨.of_blk (by decide) b1' rfl, .of_blk (by decide) b2' rfl, .of_blk (by decide) b3' rfl⟩
  go_wp2_with fail
  have hU := stUsed_any sampleS ⟨#[110]⟩ _ _ _ 2 1 1 _ hm sampleS_sz (hT.below hB2)
  rw [sample_used] at hU
  refine hU.mono ?_
  rintro e w3 ⟨rfl, hb3⟩
  have hB3 := hB2.trans (hb3.mono hB2.size)
  have bs3 := bs.below hb3 bs.lt
  have bj3 := b1'.below hb3 b1'.lt
  have bn3 := b2'.below hb3 b2'.lt
  have bl3 := b3'.below hb3 b3'.lt
  have c3 : w3.cell? ⟨w1.heap.size, 3, none⟩ = some (.slice (some ⟨bl, 0, none⟩) 1 1) := bs3.cell 3
  have hlt3 := bs3.lt
  have hown : (w3.alloc (.cells #[.string ⟨#[98]⟩, .string ⟨#[110]⟩, .int .i64 0] 43)).ownsRow w.heap.size 43 3 (.slice (some ⟨bl, 0, none⟩) 1 1) 1 [.string ⟨#[97]⟩, .string ⟨#[110]⟩, .int .i64 9] :=
    ⟨rfl, .inr ⟨bl, 1, _, rfl, hbl, bl3.alloc _, by omega, by decide, rfl, rfl⟩⟩
  have bnw := Blk.new w3 43 #[.string ⟨#[98]⟩, .string ⟨#[110]⟩, .int .i64 0]
  have hcl := World.news_of_block bnw
  have hB4 := hB3.alloc hB3.size (.cells #[.string ⟨#[98]⟩, .string ⟨#[110]⟩, .int .i64 0] 43)
  have n1 : bj ≠ bl := Blk.ne_ bj3 bl3 (by decide)
  have n2 : bn ≠ bl := Blk.ne_ bn3 bl3 (by decide)
  have n3 : w1.heap.size ≠ bl := by omega
  have n4 : bj ≠ w1.heap.size := Blk.ne_ bj3 bs3 (by decide)
  have n5 : bn ≠ w1.heap.size := Blk.ne_ bn3 bs3 (by decide)
  clear b1' b2' b3' bs hm hB2 hb3 hU
  go_wp2_with (at_builtin; refine wpList_append_own _ rfl _ _ 31 rfl w.heap.size 43 i0 _ 3 40 Tryd.underlying31 hi hz0 hz1 hz2 rfl (by decide) _ 1 [.string ⟨#[97]⟩, .string ⟨#[110]⟩, .int .i64 9] rfl hown ⟨w3.heap.size, 0, none⟩ 1 1 [.string ⟨#[98]⟩, .string ⟨#[110]⟩, .int .i64 0] rfl rfl hcl (by decide) (by decide) (by decide) hB4.size ?_)
  intro v4 w4 hown4 hg4 _
  have hg5 : (w3.alloc (.cells #[.string ⟨#[98]⟩, .string ⟨#[110]⟩, .int .i64 0] 43)).grownBy w4 (some bl) := hg4
  have hB5 : Below w.heap.size w w4 := hB4.grown hg5 hB4.size (fun k hk => by injection hk with hk; omega)
  have bs4 := (bs3.alloc _).gr hg5 n3.symm.symm
  have bj4 := (bj3.alloc _).gr hg5 n1
  have bn4 := (bn3.alloc _).gr hg5 n2
  have f3 := bs4.frozen 3
  have e0 : w4.cell? ⟨w1.heap.size, 0, none⟩ = some (.int .i64 4) := bs4.cell 0
  have e1 : w4.cell? ⟨w1.heap.size, 1, none⟩ = some (.slice (some ⟨bj, 0, none⟩) 2 2) := bs4.cell 1
  have e2 : w4.cell? ⟨w1.heap.size, 2, none⟩ = some (.slice (some ⟨bn, 0, none⟩) 1 1) := bs4.cell 2
  have e3 : w4.cell? ⟨w1.heap.size, 3, none⟩ = some (.slice (some ⟨bl, 0, none⟩) 1 1) := bs4.cell 3
  have hlt4 := bs4.lt
  have hfm : ∃ p c, v4 = .slice p 2 c := by
    rcases hown4.2 with ⟨rfl, h0⟩ | ⟨g, cap, cur, rfl, _⟩
    · exact absurd h0 (by decide)
    · exact ⟨_, cap, rfl⟩
  obtain ⟨p4, c4, rfl⟩ := hfm
  have hown5 : (w4.setCell ⟨w1.heap.size, 3, none⟩ (.slice p4 2 c4)).ownsRow w.heap.size 43 3 (.slice p4 2 c4) 2 [.string ⟨#[97]⟩, .string ⟨#[110]⟩, .int .i64 9, .string ⟨#[98]⟩, .string ⟨#[110]⟩, .int .i64 0] := by
    have hne : ∀ g cap cur, Value.slice p4 2 c4 = .slice (some ⟨g, 0, none⟩) 2 cap → w4.heap[g]? = some (.cells cur 43 (0, 0)) → g ≠ w1.heap.size := by
      intro g cap cur _ hh
      exact Blk.ne_ (show Blk w4 g 43 cur from hh) bs4 (by decide)
    refine World.ownsRow.kept (row := some w1.heap.size) hown4 ⟨rfl, rfl, rfl, by simp, fun k hk hk2 => Below.heap_setCell w4 ⟨w1.heap.size, 3, none⟩ _ k (by intro h0; exact hk2 (by rw [h0]))⟩ (.inr ?_)
    intro h0
    rcases hown4.2 with ⟨h1, _⟩ | ⟨g, cap, cur, h1, _, hh, _⟩
    · cases h1
    · have := hne g cap cur h1 hh
      rw [h1] at h0
      have h2 : some g = some w1.heap.size := h0
      injection h2 with h2
      exact this h2
  have hm5 : StM (w4.setCell ⟨w1.heap.size, 3, none⟩ (.slice p4 2 c4)) _ (some ⟨bj, 0, none⟩) (some ⟨bn, 0, none⟩) p4 sampleT :=
    ⟨.of_blk (by decide) (bj4.far (p := ⟨w1.heap.size, 3, none⟩) n4 _) rfl, .of_blk (by decide) (bn4.far (p := ⟨w1.heap.size, 3, none⟩) n5 _) rfl, .of_own (c := c4) (by decide) hown5⟩
  have hB6 : Below w.heap.size w (w4.setCell ⟨w1.heap.size, 3, none⟩ (.slice p4 2 c4)) := hB5.setCell (by show w.heap.size ≤ w1.heap.size; omega) _
  have hC := stCheck_any sampleT _ _ _ 2 1 c4 _ hm5 sampleT_sz (hT.below hB6)
  rw [sample_check] at hC
  have HC := Lib.hid hC
  clear hC hm5 hown5 hown4 hown hcl bnw hg4 hg5 bs3 bj3 bn3 bl3 bj4 bn4 bs4 hi hz0 hz1 hz2
  go_wp2_with fail
  refine HC.out.mono ?_
  rintro e w5 ⟨rfl, hb5⟩
  go_wp2_with fail
  go_ret
  exact ⟨rfl, hB6.trans (hb5.mono hB6.size)⟩
end Go.Proofs.YtbjngeaoimaooaaDoor
