/-
  R.Eq of two equal lists of frames.
-/
import Derived.Test.YtbjngeaoimaooaaFeedZ
set_option linter.unusedVariables false
set_option linter.unusedSimpArgs false
namespace Go.Proofs.Ytbjngeaoimaooaa
open Go.RowKit
set_option maxHeartbeats 1000000 in
set_option maxRecDepth 100000 in
theorem eqFr_same (p q : Option Addr) (c c' : Nat) (l : List Fr) (w : World) (hp : Elts w w.heap.size 3 p (l.map rowFr)) (hq : Elts w w.heap.size 3 q (l.map rowFr)) (hl : l.length ≤ 4611686018427387904) :
    Calls Try.prog 11 #[.slice p l.length c, .slice q l.length c'] w fun e w' => e = .returned (.bool true) ∧ Below w.heap.size w w' := by
  go_enter Try.func11, Try.ntmps11
  go_wp2_with fail
  go_loopw [14] (fun i wr => ∃ k : Nat, k ≤ l.length ∧ i = .int .i64 k ∧ Below w.heap.size w wr) (fun i _ => l.length - (intOf i).toNat)
  case atStart => exact ⟨0, Nat.zero_le _, rfl, Below.refl _ _⟩
  case round =>
    obtain ⟨k, hk, rfl, hbr⟩ := hrel
    by_cases hlt : k < l.length
    · have hx : l[k]? = some l[k] := List.getElem?_eq_getElem hlt
      generalize l[k] = x at *
      obtain ⟨a, rfl, hab, _, hat⟩ := (hp.below hbr).at_ (k := k) (r := rowFr x) (by rw [List.getElem?_map, hx]; rfl)
      obtain ⟨b, rfl, hbb, _, hbt⟩ := (hq.below hbr).at_ (k := k) (r := rowFr x) (by rw [List.getElem?_map, hx]; rfl)
      have hB5 := hbr.alloc hbr.size (.cells #[Value.int .i64 (x.ver : Int), Value.int .i64 (x.kind : Int), Value.string (bstr x.pl)] 34)
      have hbt5 := hbt.below ((Below.refl wr.heap.size wr).alloc (Nat.le_refl _) (.cells #[Value.int .i64 (x.ver : Int), Value.int .i64 (x.kind : Int), Value.string (bstr x.pl)] 34)) (by rw [block_of_add]; have := hbr.size; omega)
      clear hx hbt
      go_wp2_with (refine wpList_load_at rfl _ _ rfl (a.add (k * 3)) rfl [Value.int .i64 (x.ver : Int), Value.int .i64 (x.kind : Int), Value.string (bstr x.pl)] _ hat Try.underlying34 rfl frame_size3 ?_)
      refine wp_region_quiet_lit (by kernel_rfl) (by kernel_rfl) ?_
      repeat (first
        | go_big_quiet_step (fail)
        | (refine wpQuiet_load_at rfl _ _ rfl (b.add (k * 3)) rfl [Value.int .i64 (x.ver : Int), Value.int .i64 (x.kind : Int), Value.string (bstr x.pl)] _ ?_ Try.underlying34 rfl frame_size3 ?_; (focus (rintro w5 ⟨n5, rfl⟩; exact hbt5.drewN n5)); simp only [Act.put, List.setIfInBounds_toArray, List.set_cons_zero, List.set_cons_succ]))
      refine wpQuiet_nil ?_
      intro _ hw'
      obtain ⟨nq, hw''⟩ := hw'
      subst hw''
      go_wp2_with fail
      go_roundw
      case rel => exact ⟨k + 1, by omega, by go_num, below_drewN hB5 nq⟩
      case measure => simp [intOf]; omega
    · go_wp2_with fail
      go_ret
      exact ⟨rfl, hbr⟩
end Go.Proofs.Ytbjngeaoimaooaa
