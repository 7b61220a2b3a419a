/-
  Several texts in one: CopyB.
-/
import Derived.Test.YtaioadbenigdpaaGreatDoorPkCopyW
import Derived.Test.YtaioadbenigdpaaGreatDoorPkOwn
set_option linter.unusedVariables false
set_option linter.unusedSimpArgs false
set_option maxHeartbeats 16000000
set_option maxRecDepth 100000
namespace Go.Proofs.YtaioadbenigdpaaGreatDoor
open Go.RowKit
theorem copyBJ_any (p : Option Addr) (c : Nat) (l : List JobD) (w : World) (hel : Elts w w.heap.size 5 p (l.map rowJ)) (hl : l.length * 56 ≤ 140737488355328) :
  Calls Tryz.prog 6 #[.slice p l.length c] w fun e w' => CopyPost w 31 5 (l.map rowJ) e w' := by
 obtain ⟨i0, hi, hz0, hz1, hz2⟩ := info_parts job_infoC
 have hrd := hel.reads
 have hs := hel.1
 rw [List.length_map] at hrd
 have h1 := rowsJ_one l
 have hlen : (l.map rowJ).length = l.length := List.length_map _
 generalize (l.map rowJ) = rows at *
 have HL := Lib.hid hlen
 have hml : 0 + l.length ≤ maxLen := by unfold maxLen; omega
 have hby : (0 + l.length) * 56 ≤ 140737488355328 := by omega
 clear hlen hel
 go_enter Tryz.func6, Tryz.ntmps6
 go_wp2_with (at_builtin; refine wpList_append_any _ rfl _ _ 22 rfl w.heap.size 31 i0 _ 5 56 Tryz.underlying22 hi hz0 hz1 hz2 rfl (by decide) _ 0 [] rfl (World.ownsRow_nil _ _ _ _) w.heap.size p l.length c rows.flatten rfl hrd h1 hml hby (Nat.le_refl _) ?_)
 intro v' w' hown hg _
 have hB : Below w.heap.size w w' := (Below.refl _ _).grown hg (Nat.le_refl _) (fun k hk => by cases hk)
 (try simp only [Nat.zero_add, List.nil_append] at hown)
 have hfm : ∃ q c', v' = .slice q l.length c' := by
  rcases hown.2 with ⟨rfl, h0⟩ | ⟨g, cap, cur, rfl, _⟩
  ·exact ⟨none, 0, by rw [h0]⟩
  ·exact ⟨_, cap, rfl⟩
 obtain ⟨q, c', rfl⟩ := hfm
 have HO := Lib.hid hown
 clear hown hg hi hz0 hz1 hz2 hrd h1 hml hby
 go_wp2_with fail
 go_ret
 exact ⟨q, c', by rw [HL.out]; rfl, ⟨hs, by rw [HL.out]; exact HO.out⟩, hB⟩
theorem copyBN_any (p : Option Addr) (c : Nat) (l : List NodeD) (w : World) (hel : Elts w w.heap.size 3 p (l.map rowN)) (hl : l.length * 40 ≤ 140737488355328) :
  Calls Tryz.prog 7 #[.slice p l.length c] w fun e w' => CopyPost w 34 3 (l.map rowN) e w' := by
 obtain ⟨i0, hi, hz0, hz1, hz2⟩ := info_parts node_infoC
 have hrd := hel.reads
 have hs := hel.1
 rw [List.length_map] at hrd
 have h1 := rowsN_one l
 have hlen : (l.map rowN).length = l.length := List.length_map _
 generalize (l.map rowN) = rows at *
 have HL := Lib.hid hlen
 have hml : 0 + l.length ≤ maxLen := by unfold maxLen; omega
 have hby : (0 + l.length) * 40 ≤ 140737488355328 := by omega
 clear hlen hel
 go_enter Tryz.func7, Tryz.ntmps7
 go_wp2_with (at_builtin; refine wpList_append_any _ rfl _ _ 23 rfl w.heap.size 34 i0 _ 3 40 Tryz.underlying23 hi hz0 hz1 hz2 rfl (by decide) _ 0 [] rfl (World.ownsRow_nil _ _ _ _) w.heap.size p l.length c rows.flatten rfl hrd h1 hml hby (Nat.le_refl _) ?_)
 intro v' w' hown hg _
 have hB : Below w.heap.size w w' := (Below.refl _ _).grown hg (Nat.le_refl _) (fun k hk => by cases hk)
 (try simp only [Nat.zero_add, List.nil_append] at hown)
 have hfm : ∃ q c', v' = .slice q l.length c' := by
  rcases hown.2 with ⟨rfl, h0⟩ | ⟨g, cap, cur, rfl, _⟩
  ·exact ⟨none, 0, by rw [h0]⟩
  ·exact ⟨_, cap, rfl⟩
 obtain ⟨q, c', rfl⟩ := hfm
 have HO := Lib.hid hown
 clear hown hg hi hz0 hz1 hz2 hrd h1 hml hby
 go_wp2_with fail
 go_ret
 exact ⟨q, c', by rw [HL.out]; rfl, ⟨hs, by rw [HL.out]; exact HO.out⟩, hB⟩
theorem copyBL_any (p : Option Addr) (c : Nat) (l : List LeaseD) (w : World) (hel : Elts w w.heap.size 3 p (l.map rowL)) (hl : l.length * 40 ≤ 140737488355328) :
  Calls Tryz.prog 8 #[.slice p l.length c] w fun e w' => CopyPost w 37 3 (l.map rowL) e w' := by
 obtain ⟨i0, hi, hz0, hz1, hz2⟩ := info_parts lease_infoC
 have hrd := hel.reads
 have hs := hel.1
 rw [List.length_map] at hrd
 have h1 := rowsL_one l
 have hlen : (l.map rowL).length = l.length := List.length_map _
 generalize (l.map rowL) = rows at *
 have HL := Lib.hid hlen
 have hml : 0 + l.length ≤ maxLen := by unfold maxLen; omega
 have hby : (0 + l.length) * 40 ≤ 140737488355328 := by omega
 clear hlen hel
 go_enter Tryz.func8, Tryz.ntmps8
 go_wp2_with (at_builtin; refine wpList_append_any _ rfl _ _ 24 rfl w.heap.size 37 i0 _ 3 40 Tryz.underlying24 hi hz0 hz1 hz2 rfl (by decide) _ 0 [] rfl (World.ownsRow_nil _ _ _ _) w.heap.size p l.length c rows.flatten rfl hrd h1 hml hby (Nat.le_refl _) ?_)
 intro v' w' hown hg _
 have hB : Below w.heap.size w w' := (Below.refl _ _).grown hg (Nat.le_refl _) (fun k hk => by cases hk)
 (try simp only [Nat.zero_add, List.nil_append] at hown)
 have hfm : ∃ q c', v' = .slice q l.length c' := by
  rcases hown.2 with ⟨rfl, h0⟩ | ⟨g, cap, cur, rfl, _⟩
  ·exact ⟨none, 0, by rw [h0]⟩
  ·exact ⟨_, cap, rfl⟩
 obtain ⟨q, c', rfl⟩ := hfm
 have HO := Lib.hid hown
 clear hown hg hi hz0 hz1 hz2 hrd h1 hml hby
 go_wp2_with fail
 go_ret
 exact ⟨q, c', by rw [HL.out]; rfl, ⟨hs, by rw [HL.out]; exact HO.out⟩, hB⟩
end Go.Proofs.YtaioadbenigdpaaGreatDoor
