/-
  Several texts in one: StOpenB.
-/
import Derived.Test.YtaioadbenigdpaaGreatDoorPkStateB
set_option linter.unusedVariables false
set_option linter.unusedSimpArgs false
set_option maxHeartbeats 16000000
set_option maxRecDepth 100000
namespace Go.Proofs.YtaioadbenigdpaaGreatDoor
open Go.RowKit Go.ChangeShapes Go.WideShapes Go.Deep Go.Joins
section
variable {H : Type} {enc : TypeId × Value → H} {w : World} {base : Nat} {spare : Nat → Bool} {held : Bool}
theorem slice_lenB {t e : TypeId} {α : Type} {datOf : α → DataW H} {l rest : List α} {b : Nat} (ht : Tryz.prog.underlying t = some (.slice e)) (hb : Tryz.prog.bytesOf e = b)
  (hw : ∀ n ∈ DataW.weights Tryz.prog t (.slice (l.map datOf) (rest.map datOf)), n ≤ reachBytes) : l.length * b ≤ 140737488351232 := by
 simp only [DataW.weights, ht, hb] at hw
 have := hw _ List.mem_cons_self
 have hr : reachBytes = 140737488351232 := rfl
 rw [List.length_map, List.length_map, hr] at this
 have : l.length * b ≤ (l.length + rest.length) * b := Nat.mul_le_mul_right _ (by omega)
 omega
theorem open_stateB {v : Value} {d : DataW H} {ps : List MemPlace} {ts : List TypeId} {ds : List (DataW H)} {j : Nat} {r : Reach} {b0 : Nat} (hv : Value.okWide Tryz.prog w r b0 26 v) (h : DataW.Trod enc Tryz.prog w base spare held 26 v d ps)
  (hsz : (DataW.weightsEach Tryz.prog ts ds).all (· ≤ reachBytes) = true) (htj : ts[j]? = some 26) (hdj : ds[j]? = some d) :
  ∃ (s : St) (p1 p2 p3 : Option Addr) (c1 c2 c3 : Nat), v = .agg #[.int .i64 s.rev, .slice p1 s.jobs.length c1, .slice p2 s.nodes.length c2, .slice p3 s.leases.length c3] ∧ StM w w.heap.size p1 p2 p3 s ∧ StOk s ∧ s.jobs.length * 56 ≤ 140737488351232 ∧ s.nodes.length * 40 ≤ 140737488351232 ∧ s.leases.length * 40 ≤ 140737488351232 := by
 obtain ⟨v0, v1, v2, v3, y0, y1, y2, y3, n, rfl, rfl, _, t0, t1, t2, t3⟩ := open_agg4 Tryz.underlying26 (by kernel_rfl) (by kernel_rfl) hv h
 obtain ⟨a, e0, rfl, wa⟩ := DataW.trod_int Tryz.underlying3 t0
 simp at e0; subst e0
 obtain ⟨p1, c1, l1, rfl, hc1, hm1, hE1, hk1, hd1⟩ := open_rows1 rowJ datJ okJ 5 Tryz.underlying22 (by kernel_rfl) (by decide) t1 (fun n cs d pl => elem_J n cs d pl)
 obtain ⟨p2, c2, l2, rfl, hc2, hm2, hE2, hk2, hd2⟩ := open_rows1 rowN datN okN 3 Tryz.underlying23 (by kernel_rfl) (by decide) t2 (fun n cs d pl => elem_N n cs d pl)
 obtain ⟨p3, c3, l3, rfl, hc3, hm3, hE3, hk3, hd3⟩ := open_rows1 rowL datL okL 3 Tryz.underlying24 (by kernel_rfl) (by decide) t3 (fun n cs d pl => elem_L n cs d pl)
 have ba := bounds_i64 wa
 have hm : ∀ n ∈ DataW.weights Tryz.prog 26 (.agg [.lit (.int .i64 a), y1.1, y2.1, y3.1] : DataW H), n ≤ reachBytes := fun n hn =>
  of_decide_eq_true (List.all_eq_true.1 hsz _ (DataW.weights_mem_each (P := Tryz.prog) htj hdj n hn))
 simp only [DataW.weights, Tryz.underlying26, DataW.weightsEach, List.map_cons, List.map_nil, List.nil_append, List.append_nil] at hm
 refine ⟨⟨a, l1, l2, l3⟩, p1, p2, p3, c1, c2, c3, rfl, ⟨hE1, hE2, hE3⟩, ⟨⟨ba.1, ba.2⟩, hk1, hk2, hk3, ?_, ?_, ?_⟩, ?_, ?_, ?_⟩
 ·rcases hd1 with ⟨rfl, _⟩ | ⟨rest, hd⟩
  ·exact Nat.zero_le _
  ·exact slice_len Tryz.underlying22 (b := 56) (by kernel_rfl) (by decide) (fun n hn => hm n (by rw [← hd] at hn; exact List.mem_append_left _ hn))
 ·rcases hd2 with ⟨rfl, _⟩ | ⟨rest, hd⟩
  ·exact Nat.zero_le _
  ·exact slice_len Tryz.underlying23 (b := 40) (by kernel_rfl) (by decide) (fun n hn => hm n (by rw [← hd] at hn; exact List.mem_append_right _ (List.mem_append_left _ hn)))
 ·rcases hd3 with ⟨rfl, _⟩ | ⟨rest, hd⟩
  ·exact Nat.zero_le _
  ·exact slice_len Tryz.underlying24 (b := 40) (by kernel_rfl) (by decide) (fun n hn => hm n (by rw [← hd] at hn; exact List.mem_append_right _ (List.mem_append_right _ hn)))
 ·rcases hd1 with ⟨rfl, _⟩ | ⟨rest, hd⟩
  ·exact (by simp)
  ·exact slice_lenB Tryz.underlying22 (b := 56) (by kernel_rfl) (fun n hn => hm n (by rw [← hd] at hn; exact List.mem_append_left _ hn))
 ·rcases hd2 with ⟨rfl, _⟩ | ⟨rest, hd⟩
  ·exact (by simp)
  ·exact slice_lenB Tryz.underlying23 (b := 40) (by kernel_rfl) (fun n hn => hm n (by rw [← hd] at hn; exact List.mem_append_right _ (List.mem_append_left _ hn)))
 ·rcases hd3 with ⟨rfl, _⟩ | ⟨rest, hd⟩
  ·exact (by simp)
  ·exact slice_lenB Tryz.underlying24 (b := 40) (by kernel_rfl) (fun n hn => hm n (by rw [← hd] at hn; exact List.mem_append_right _ (List.mem_append_right _ hn)))
end
end Go.Proofs.YtaioadbenigdpaaGreatDoor
