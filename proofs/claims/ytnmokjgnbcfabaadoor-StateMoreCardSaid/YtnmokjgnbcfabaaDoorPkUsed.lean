/-
  Several texts in one: UsedW, StatedW.
-/
import Derived.Test.YtnmokjgnbcfabaaDoorPkStateB
import Derived.Test.YtnmokjgnbcfabaaDoorPkStateA
/-
  The contract of state.Used.
-/
set_option linter.unusedVariables false
set_option linter.unusedSimpArgs false
namespace Go.Proofs.YtnmokjgnbcfabaaDoor
open Go.RowKit
set_option maxHeartbeats 2000000 in
set_option maxRecDepth 100000 in
theorem stUsed_any (s : St) (nm : ByteArray) (p1 p2 p3 : Option Addr) (c1 c2 c3 : Nat) (w : World) (hm : StM w w.heap.size p1 p2 p3 s) (hz : StSz s) (hT : Tabs w) :
    Calls Tryd.prog 30 #[.agg #[.int .i64 s.rev, .slice p1 s.jobs.length c1, .slice p2 s.nodes.length c2, .slice p3 s.leases.length c3], .string nm] w fun e w' => e = .returned (.tuple #[.int .i64 (usedR s nm).1, .int .i64 ((usedR s nm).2 : Int)]) ∧ Below w.heap.size w w' := by
  have hc := Lib.hid (check_at s p1 p2 p3 c1 c2 c3 w hm hz hT)
  have hb0 : Below w.heap.size w (w.alloc (.cells #[Value.int .i64 s.rev, Value.slice p1 s.jobs.length c1, Value.slice p2 s.nodes.length c2, Value.slice p3 s.leases.length c3] 26)) := (Below.refl _ _).alloc (Nat.le_refl _) _
  clear hm hz hT
  go_enter Tryd.func30, Tryd.ntmps30
  go_wp2_with fail
  refine (hc.out _ hb0).mono ?_
  rintro e w1 ⟨hb', h⟩
  have hb := hb0.trans (hb'.mono hb0.size)
  rcases h with ⟨hne, rfl⟩ | ⟨h0, gt, bj, bn, bu, rfl, hT⟩
  · have hneb : ((checkE s : Int) != 0) = true := by rw [bne_iff_ne]; omega
    have hR : usedR s nm = (0, checkE s) := by unfold usedR; rw [if_pos hne]
    have HR := Lib.hid hR
    clear hne hR
    go_wp2_with fail
    go_ret2
    exact ⟨by rw [HR.out]; rfl, hb⟩
  · have HT := Lib.hid hT
    have H0 := Lib.hid h0
    have hzn := zero_node_lit
    have c0 : w1.cell? ⟨gt, 1, none⟩ = some (.map (some bn)) := hT.blk.cell 1
    have c0b : ∀ o1, (w1.alloc o1).cell? ⟨gt, 1, none⟩ = some (.map (some bn)) := fun o1 => (hT.blk.alloc o1).cell 1
    have hgt := hT.blk.lt
    have hln := fun (W : World) (hW : Below w1.heap.size w1 W) => (hT.below hW).lookN nm
    generalize (nodeAt s.nodes nm).getD zN = n at *
    unfold valN at hln
    have hlu := fun (W : World) (hW : Below w1.heap.size w1 W) => (hT.below hW).lookU nm
    have e1 := hln _ (Below.refl _ _)
    have e1d := hln _ (Below.refl _ _).drew
    have e2 := fun o => hln _ ((Below.refl _ _).alloc (Nat.le_refl _) o)
    have e2d := fun o => hln _ ((Below.refl _ _).alloc (Nat.le_refl _) o).drew
    have HLU := Lib.hid hlu
    clear h0 hT hln hlu
    cases hs : (nodeAt s.nodes nm).isSome
    all_goals
      rw [hs] at e1 e1d e2 e2d
      have hR : ∃ r, usedR s nm = r ∧ r = (if (nodeAt s.nodes nm).isSome then (usedBy s.jobs nm s.leases, 0) else (0, 6)) := ⟨_, rfl, by unfold usedR; rw [if_neg (by rw [H0.out]; simp)]⟩
      obtain ⟨r, hR, hr⟩ := hR
      rw [hs] at hr
      simp only [if_true, if_false, Bool.false_eq_true] at hr
      rw [hr] at hR
      have HR := Lib.hid hR
      clear hs hR hr
    · go_wp2_with fail
      go_ret2
      exact ⟨by rw [HR.out]; rfl, hb.trans (((Below.refl _ _).alloc (Nat.le_refl _) _).mono hb.size)⟩
    · have hb2 : Below w1.heap.size w1 (w1.alloc (.cells #[.string n.name, .int .i64 n.room, .string n.zone] 35)) := (Below.refl _ _).alloc (Nat.le_refl _) _
      have c2 : w1.cell? ⟨gt, 2, none⟩ = some (.map (some bu)) := HT.out.blk.cell 2
      have c2b : ∀ o1, (w1.alloc o1).cell? ⟨gt, 2, none⟩ = some (.map (some bu)) := fun o1 => (HT.out.blk.alloc o1).cell 2
      have d0 := HLU.out _ hb2
      go_wp2_with fail
      go_ret2
      exact ⟨by rw [HR.out]; rfl, hb.trans (hb2.mono hb.size)⟩
end Go.Proofs.YtnmokjgnbcfabaaDoor

/-
  The laws' own fact 'stated' of the states.
-/
set_option linter.unusedVariables false
set_option linter.unusedSimpArgs false
namespace Go.Proofs.YtnmokjgnbcfabaaDoor
open Go.RowKit
set_option maxHeartbeats 2000000 in
set_option maxRecDepth 100000 in
theorem stated_any (w : World) (hT : Tabs w) : Calls Tryd.prog 10 #[] w fun e w' => e = .returned (.bool true) ∧ Below w.heap.size w w' := by
  have hzs := zero_state_lit
  have hzl := zero_lease_lit
  obtain ⟨i0, hi, hz0, hz1, hz2⟩ := info_parts lease_info
  go_enter Tryd.func10, Tryd.ntmps10
  go_wp2_with fail
  refine (sample_any _).mono ?_
  rintro e w1 ⟨bj, bn, bl, rfl, b1, b2, b3, hb1, hbl⟩
  have hB2 := hb1.alloc hb1.size (.cells #[.int .i64 4, .slice (some ⟨bj, 0, none⟩) 2 2, .slice (some ⟨bn, 0, none⟩) 1 1, .slice (some ⟨bl, 0, none⟩) 1 1] 26)
  have bs := Blk.new w1 26 #[.int .i64 4, .slice (some ⟨bj, 0, none⟩) 2 2, .slice (some ⟨bn, 0, none⟩) 1 1, .slice (some ⟨bl, 0, none⟩) 1 1]
  have b1' := b1.alloc (.cells #[.int .i64 4, .slice (some ⟨bj, 0, none⟩) 2 2, .slice (some ⟨bn, 0, none⟩) 1 1, .slice (some ⟨bl, 0, none⟩) 1 1] 26)
  have b2' := b2.alloc (.cells #[.int .i64 4, .slice (some ⟨bj, 0, none⟩) 2 2, .slice (some ⟨bn, 0, none⟩) 1 1, .slice (some ⟨bl, 0, none⟩) 1 1] 26)
  have b3' := b3.alloc (.cells #[.int .i64 4, .slice (some ⟨bj, 0, none⟩) 2 2, .slice (some ⟨bn, 0, none⟩) 1 1, .slice (some ⟨bl, 0, none⟩) 1 1] 26)
  have hg1 := b3.lt
  clear b1 b2 b3 hb1
  have hm : StM (w1.alloc (.cells #[.int .i64 4, .slice (some ⟨bj, 0, none⟩) 2 2, .slice (some ⟨bn, 0, none⟩) 1 1, .slice (some ⟨bl, 0, none⟩) 1 1] 26)) _ (some ⟨bj, 0, none⟩) (some ⟨bn, 0, none⟩) (some ⟨bl, 0, none⟩) sampleS :=
    ⟨.of_blk (by decide) b1' rfl, .of_blk (by decide) b2' rfl, .of_blk (by decide) b3' rfl⟩
  go_wp2_with fail
  have hU := stUsed_any sampleS ⟨#[110]⟩ _ _ _ 2 1 1 _ hm sampleS_sz (hT.below hB2)
  rw [sample_used] at hU
  refine hU.mono ?_
  rintro e w3 ⟨rfl, hb3⟩
  have hB3 := hB2.trans (hb3.mono hB2.size)
  have bs3 := bs.below hb3 bs.lt
  have bj3 := b1'.below hb3 b1'.lt
  have bn3 := b2'.below hb3 b2'.lt
  have bl3 := b3'.below hb3 b3'.lt
  have c3 : w3.cell? ⟨w1.heap.size, 3, none⟩ = some (.slice (some ⟨bl, 0, none⟩) 1 1) := bs3.cell 3
  have hlt3 := bs3.lt
  have hown : (w3.alloc (.cells #[.string ⟨#[98]⟩, .string ⟨#[110]⟩, .int .i64 0] 38)).ownsRow w.heap.size 38 3 (.slice (some ⟨bl, 0, none⟩) 1 1) 1 [.string ⟨#[97]⟩, .string ⟨#[110]⟩, .int .i64 9] :=
    ⟨rfl, .inr ⟨bl, 1, _, rfl, hbl, bl3.alloc _, by omega, by decide, rfl, rfl⟩⟩
  have bnw := Blk.new w3 38 #[.string ⟨#[98]⟩, .string ⟨#[110]⟩, .int .i64 0]
  have hcl := World.news_of_block bnw
  have hB4 := hB3.alloc hB3.size (.cells #[.string ⟨#[98]⟩, .string ⟨#[110]⟩, .int .i64 0] 38)
  have n1 : bj ≠ bl := Blk.ne_ bj3 bl3 (by decide)
  have n2 : bn ≠ bl := Blk.ne_ bn3 bl3 (by decide)
  have n3 : w1.heap.size ≠ bl := by omega
  have n4 : bj ≠ w1.heap.size := Blk.ne_ bj3 bs3 (by decide)
  have n5 : bn ≠ w1.heap.size := Blk.ne_ bn3 bs3 (by decide)
  clear b1' b2' b3' bs hm hB2 hb3 hU
  go_wp2_with (at_builtin; refine wpList_append_own _ rfl _ _ 24 rfl w.heap.size 38 i0 _ 3 40 Tryd.underlying24 hi hz0 hz1 hz2 rfl (by decide) _ 1 [.string ⟨#[97]⟩, .string ⟨#[110]⟩, .int .i64 9] rfl hown ⟨w3.heap.size, 0, none⟩ 1 1 [.string ⟨#[98]⟩, .string ⟨#[110]⟩, .int .i64 0] rfl rfl hcl (by decide) (by decide) (by decide) hB4.size ?_)
  intro v4 w4 hown4 hg4 _
  have hg5 : (w3.alloc (.cells #[.string ⟨#[98]⟩, .string ⟨#[110]⟩, .int .i64 0] 38)).grownBy w4 (some bl) := hg4
  have hB5 : Below w.heap.size w w4 := hB4.grown hg5 hB4.size (fun k hk => by injection hk with hk; omega)
  have bs4 := (bs3.alloc _).gr hg5 n3.symm.symm
  have bj4 := (bj3.alloc _).gr hg5 n1
  have bn4 := (bn3.alloc _).gr hg5 n2
  have f3 := bs4.frozen 3
  have e0 : w4.cell? ⟨w1.heap.size, 0, none⟩ = some (.int .i64 4) := bs4.cell 0
  have e1 : w4.cell? ⟨w1.heap.size, 1, none⟩ = some (.slice (some ⟨bj, 0, none⟩) 2 2) := bs4.cell 1
  have e2 : w4.cell? ⟨w1.heap.size, 2, none⟩ = some (.slice (some ⟨bn, 0, none⟩) 1 1) := bs4.cell 2
  have e3 : w4.cell? ⟨w1.heap.size, 3, none⟩ = some (.slice (some ⟨bl, 0, none⟩) 1 1) := bs4.cell 3
  have hlt4 := bs4.lt
  have hfm : ∃ p c, v4 = .slice p 2 c := by
    rcases hown4.2 with ⟨rfl, h0⟩ | ⟨g, cap, cur, rfl, _⟩
    · exact absurd h0 (by decide)
    · exact ⟨_, cap, rfl⟩
  obtain ⟨p4, c4, rfl⟩ := hfm
  have hown5 : (w4.setCell ⟨w1.heap.size, 3, none⟩ (.slice p4 2 c4)).ownsRow w.heap.size 38 3 (.slice p4 2 c4) 2 [.string ⟨#[97]⟩, .string ⟨#[110]⟩, .int .i64 9, .string ⟨#[98]⟩, .string ⟨#[110]⟩, .int .i64 0] := by
    have hne : ∀ g cap cur, Value.slice p4 2 c4 = .slice (some ⟨g, 0, none⟩) 2 cap → w4.heap[g]? = some (.cells cur 38 (0, 0)) → g ≠ w1.heap.size := by
      intro g cap cur _ hh
      exact Blk.ne_ (show Blk w4 g 38 cur from hh) bs4 (by decide)
    refine World.ownsRow.kept (row := some w1.heap.size) hown4 ⟨rfl, rfl, rfl, by simp, fun k hk hk2 => Below.heap_setCell w4 ⟨w1.heap.size, 3, none⟩ _ k (by intro h0; exact hk2 (by rw [h0]))⟩ (.inr ?_)
    intro h0
    rcases hown4.2 with ⟨h1, _⟩ | ⟨g, cap, cur, h1, _, hh, _⟩
    · cases h1
    · have := hne g cap cur h1 hh
      rw [h1] at h0
      have h2 : some g = some w1.heap.size := h0
      injection h2 with h2
      exact this h2
  have hm5 : StM (w4.setCell ⟨w1.heap.size, 3, none⟩ (.slice p4 2 c4)) _ (some ⟨bj, 0, none⟩) (some ⟨bn, 0, none⟩) p4 sampleT :=
    ⟨.of_blk (by decide) (bj4.far (p := ⟨w1.heap.size, 3, none⟩) n4 _) rfl, .of_blk (by decide) (bn4.far (p := ⟨w1.heap.size, 3, none⟩) n5 _) rfl, .of_own (c := c4) (by decide) hown5⟩
  have hB6 : Below w.heap.size w (w4.setCell ⟨w1.heap.size, 3, none⟩ (.slice p4 2 c4)) := hB5.setCell (by show w.heap.size ≤ w1.heap.size; omega) _
  have hC := stCheck_any sampleT _ _ _ 2 1 c4 _ hm5 sampleT_sz (hT.below hB6)
  rw [sample_check] at hC
  have HC := Lib.hid hC
  clear hC hm5 hown5 hown4 hown hcl bnw hg4 hg5 bs3 bj3 bn3 bl3 bj4 bn4 bs4 hi hz0 hz1 hz2
  go_wp2_with fail
  refine HC.out.mono ?_
  rintro e w5 ⟨rfl, hb5⟩
  go_wp2_with fail
  go_ret
  exact ⟨rfl, hB6.trans (hb5.mono hB6.size)⟩
end Go.Proofs.YtnmokjgnbcfabaaDoor
