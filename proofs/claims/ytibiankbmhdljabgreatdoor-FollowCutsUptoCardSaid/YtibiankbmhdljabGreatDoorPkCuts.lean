/-
  Several texts in one: CutWh.
-/
import Derived.Test.YtibiankbmhdljabGreatDoorPkFeed
set_option linter.all false
set_option maxHeartbeats 16000000
set_option maxRecDepth 100000
namespace Go.Proofs.YtibiankbmhdljabGreatDoor
open Go.Proofs.Tryz
open Go.RowKit
def ww4 (w : World) (s : ByteArray) (n : Nat) (e : Ending) (w' : World) : Prop :=
 ∃ q c, ∃ ps : List ByteArray, e = .returned (.slice q ps.length c) ∧ OwnS w' w.heap.size (.slice q ps.length c) ps ∧ (ps.map (·.data.toList)).flatten = s.data.toList ∧ ps.length = n + 1 ∧ Below w.heap.size w w'
theorem wyt (s : ByteArray) (i : Nat) : (s.extract 0 i).data.toList ++ (s.extract i s.size).data.toList = s.data.toList := by
 rw [ByteArray.data_extract, ByteArray.data_extract, Array.toList_extract, Array.toList_extract]
 simp only [List.extract_eq_take_drop, List.drop_zero, Nat.sub_zero]
 rw [List.take_of_length_le (l := List.drop i s.data.toList) (by rw [List.length_drop]; simp), List.take_append_drop]
theorem cut_any (s : ByteArray) (p : Option Addr) (c : Nat) (zs : List Int) (w : World) (hel : Elts w w.heap.size 1 p (zs.map rowI)) (hz : ∀ z ∈ zs, okI z) (hs : s.size <= 1099511627776) (hl : zs.length <= 1099511627776) :
  Calls prog 10 #[.string s, .slice p zs.length c] w fun e w' => ww4 w s zs.length e w' := by
 have HZ := zrj hz
 clear hz
 go_enter func10, ntmps10
 go_wp2_with fail
 go_loopw [0, 5, 11] (fun t v i wr => ∃ (k : Nat) (r : ByteArray) (ps : List ByteArray), k <= zs.length ∧ i = .int .i64 k ∧ t = .string r ∧ OwnS wr w.heap.size v ps ∧ Hid ((ps.map (·.data.toList)).flatten ++ r.data.toList = s.data.toList) ∧ ps.length <= k ∧ k <= ps.length ∧ r.size <= s.size ∧ Below w.heap.size w wr) (fun _ _ i _ => zs.length - (intOf i).toNat)
 case atStart => exact ⟨0, s, [], Nat.zero_le _, rfl, rfl, World.ownsRow_nil _ _ _ _, by simp [Hid], by simp, by simp, by omega, zri _ _⟩
 case round =>
  obtain ⟨k, r, ps, hk, rfl, rfl, hown, HF, hp1, hp2, hr, hbr⟩ := hrel
  by_cases hlt : k < zs.length
  ·have hx : zs[k]? = some zs[k] := zrd hlt
   have hg := HZ.out zs[k] (List.getElem_mem hlt)
   generalize zs[k] = x at *
   obtain ⟨a, rfl, hab, c0⟩ := (hel.below hbr).cell1 hx
   obtain ⟨g1, g2⟩ := hg
   have r0 := Int.emod_nonneg x (show (r.size : Int) + 1 ≠ 0 by omega)
   have r1 := Int.emod_lt_of_pos x (show (0 : Int) < (r.size : Int) + 1 by omega)
   clear hx
   go_wp2_with fail
   refine (rest_any x ((r.size : Int) + 1) _ (by omega) (by omega)).mono ?_
   rintro e w3 ⟨rfl, rfl⟩
   generalize x % ((r.size : Int) + 1) = i at *
   obtain ⟨j, rfl⟩ := Int.eq_ofNat_of_zero_le r0
   have hj : (j : Int) <= (r.size : Int) := by omega
   have hsp := wyt r j
   have he1 : (r.extract j r.size).size <= r.size := by rw [ByteArray.size_extract]; omega
   have HSP := zrj hsp
   have ho5 := hown.alloc (.cells #[.string (r.extract 0 j)] 9)
   have hb5 := hbr.alloc hbr.size (.cells #[.string (r.extract 0 j)] 9)
   have hby := Blk.new wr 9 #[.string (r.extract 0 j)]
   clear hsp hown
   go_wp2_with (at_builtin; refine uv8 rfl _ _ rfl w.heap.size _ ps rfl ho5 wr.heap.size (r.extract 0 j) rfl hby (by omega) hb5.size ?_)
   intro v5 w5 ho6 hb8
   have hb9 := hb5.trans hb8
   clear ho5 hby
   go_wp2_with fail
   go_roundw
   case rel =>
    refine ⟨k + 1, _, ps ++ [r.extract 0 j], by omega, by go_num, rfl, ho6, ?_, by simp; omega, by simp; omega, by omega, hb9⟩
    show _ = _
    rw [List.map_append, List.flatten_append, List.map_singleton, List.flatten_singleton, zrh, HSP.out]
    exact HF.out
   case measure => simp [intOf]; omega
  ·obtain rfl : k = zs.length := by omega
   have ho5 := hown.alloc (.cells #[.string r] 9)
   have hb5 := hbr.alloc hbr.size (.cells #[.string r] 9)
   have hby := Blk.new wr 9 #[.string r]
   go_wp2_with (at_builtin; refine uv8 rfl _ _ rfl w.heap.size _ ps rfl ho5 wr.heap.size r rfl hby (by omega) hb5.size ?_)
   intro v5 w5 ho6 hb8
   have hb9 := hb5.trans hb8
   obtain ⟨q, c5, rfl⟩ := ho6.form
   clear ho5 hby
   go_wp2_with fail
   go_ret
   show ww4 _ _ _ _ _
   refine ⟨q, c5, ps ++ [r], rfl, ho6, ?_, by simp; omega, hb9⟩
   rw [List.map_append, List.flatten_append, List.map_singleton, List.flatten_singleton]
   exact HF.out
end Go.Proofs.YtibiankbmhdljabGreatDoor
