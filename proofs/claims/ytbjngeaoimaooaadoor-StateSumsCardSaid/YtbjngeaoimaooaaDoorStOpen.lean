/-
  A state that came in, opened: what it holds, where it lies, how large it is.
-/
import Derived.Test.YtbjngeaoimaooaaDoorStateW
import Derived.Test.YtbjngeaoimaooaaDoorOpen0
import Derived.Lib.SmallJoins
set_option linter.unusedVariables false
set_option linter.unusedSimpArgs false
namespace Go.Proofs.YtbjngeaoimaooaaDoor
open Go.RowKit Go.ChangeShapes Go.WideShapes Go.Deep Go.Joins
def datJ {H : Type} (x : JobD) : DataW H := .agg [.lit (.string x.name.data.toList), .lit (.int .i64 x.prio), .lit (.int .i64 x.need), .lit (.int .i64 x.tries), .lit (.string x.tag.data.toList)]
def datN {H : Type} (x : NodeD) : DataW H := .agg [.lit (.string x.name.data.toList), .lit (.int .i64 x.room), .lit (.string x.zone.data.toList)]
def datL {H : Type} (x : LeaseD) : DataW H := .agg [.lit (.string x.job.data.toList), .lit (.string x.node.data.toList), .lit (.int .i64 x.till)]
def i64B (n : Int) : Prop := -9223372036854775808 ≤ n ∧ n ≤ 9223372036854775807
def okJ (x : JobD) : Prop := (x.name.size ≤ 9223372036854775807 ∧ x.tag.size ≤ 9223372036854775807) ∧ i64B x.prio ∧ i64B x.need ∧ i64B x.tries
def okN (x : NodeD) : Prop := (x.name.size ≤ 9223372036854775807 ∧ x.zone.size ≤ 9223372036854775807) ∧ i64B x.room
def okL (x : LeaseD) : Prop := (x.job.size ≤ 9223372036854775807 ∧ x.node.size ≤ 9223372036854775807) ∧ i64B x.till
section
variable {H : Type} {enc : TypeId × Value → H} {w : World} {base : Nat} {spare : Nat → Bool} {held : Bool}
theorem elem_J (n : Nat) (cs : List Value) (d : DataW H) (pl : List MemPlace) (hl : cs.length = 5)
    (h : DataW.trod enc Tryd.prog w base spare held n 37 cs = some (d, pl)) : ∃ x : JobD, cs = rowJ x ∧ d = datJ x ∧ okJ x := by
  obtain ⟨ys, n', hd, hyl, hf⟩ := struct_fields Tryd.underlying37 (by kernel_rfl) hl h
  obtain ⟨v0, y0, h0, g0, t0⟩ := hf 0 _ rfl
  obtain ⟨v1, y1, h1, g1, t1⟩ := hf 1 _ rfl
  obtain ⟨v2, y2, h2, g2, t2⟩ := hf 2 _ rfl
  obtain ⟨v3, y3, h3, g3, t3⟩ := hf 3 _ rfl
  obtain ⟨v4, y4, h4, g4, t4⟩ := hf 4 _ rfl
  obtain ⟨s0, e0, rfl, w0⟩ := DataW.trod_string Tryd.underlying9 t0
  obtain ⟨a1, e1, rfl, w1⟩ := DataW.trod_int Tryd.underlying3 t1
  obtain ⟨a2, e2, rfl, w2⟩ := DataW.trod_int Tryd.underlying3 t2
  obtain ⟨a3, e3, rfl, w3⟩ := DataW.trod_int Tryd.underlying3 t3
  obtain ⟨s4, e4, rfl, w4⟩ := DataW.trod_string Tryd.underlying9 t4
  simp at e0 e1 e2 e3 e4; subst e0 e1 e2 e3 e4
  match cs, hl, h0, h1, h2, h3, h4 with
  | [c0, c1, c2, c3, c4], _, h0, h1, h2, h3, h4 =>
    simp at h0 h1 h2 h3 h4; subst h0 h1 h2 h3 h4
    match ys, hyl, g0, g1, g2, g3, g4 with
    | [z0, z1, z2, z3, z4], _, g0, g1, g2, g3, g4 =>
      simp at g0 g1 g2 g3 g4; subst g0 g1 g2 g3 g4
      have b1 := bounds_i64 w1
      have b2 := bounds_i64 w2
      have b3 := bounds_i64 w3
      unfold maxLen at w0 w4
      exact ⟨⟨s0, a1, a2, a3, s4⟩, rfl, by rw [hd]; rfl, ⟨w0, w4⟩, ⟨b1.1, b1.2⟩, ⟨b2.1, b2.2⟩, b3.1, b3.2⟩
theorem elem_N (n : Nat) (cs : List Value) (d : DataW H) (pl : List MemPlace) (hl : cs.length = 3)
    (h : DataW.trod enc Tryd.prog w base spare held n 40 cs = some (d, pl)) : ∃ x : NodeD, cs = rowN x ∧ d = datN x ∧ okN x := by
  obtain ⟨ys, n', hd, hyl, hf⟩ := struct_fields Tryd.underlying40 (by kernel_rfl) hl h
  obtain ⟨v0, y0, h0, g0, t0⟩ := hf 0 _ rfl
  obtain ⟨v1, y1, h1, g1, t1⟩ := hf 1 _ rfl
  obtain ⟨v2, y2, h2, g2, t2⟩ := hf 2 _ rfl
  obtain ⟨s0, e0, rfl, w0⟩ := DataW.trod_string Tryd.underlying9 t0
  obtain ⟨a1, e1, rfl, w1⟩ := DataW.trod_int Tryd.underlying3 t1
  obtain ⟨s2, e2, rfl, w2⟩ := DataW.trod_string Tryd.underlying9 t2
  simp at e0 e1 e2; subst e0 e1 e2
  match cs, hl, h0, h1, h2 with
  | [c0, c1, c2], _, h0, h1, h2 =>
    simp at h0 h1 h2; subst h0 h1 h2
    match ys, hyl, g0, g1, g2 with
    | [z0, z1, z2], _, g0, g1, g2 =>
      simp at g0 g1 g2; subst g0 g1 g2
      have b1 := bounds_i64 w1
      unfold maxLen at w0 w2
      exact ⟨⟨s0, a1, s2⟩, rfl, by rw [hd]; rfl, ⟨w0, w2⟩, b1.1, b1.2⟩
theorem elem_L (n : Nat) (cs : List Value) (d : DataW H) (pl : List MemPlace) (hl : cs.length = 3)
    (h : DataW.trod enc Tryd.prog w base spare held n 43 cs = some (d, pl)) : ∃ x : LeaseD, cs = rowL x ∧ d = datL x ∧ okL x := by
  obtain ⟨ys, n', hd, hyl, hf⟩ := struct_fields Tryd.underlying43 (by kernel_rfl) hl h
  obtain ⟨v0, y0, h0, g0, t0⟩ := hf 0 _ rfl
  obtain ⟨v1, y1, h1, g1, t1⟩ := hf 1 _ rfl
  obtain ⟨v2, y2, h2, g2, t2⟩ := hf 2 _ rfl
  obtain ⟨s0, e0, rfl, w0⟩ := DataW.trod_string Tryd.underlying9 t0
  obtain ⟨s1, e1, rfl, w1⟩ := DataW.trod_string Tryd.underlying9 t1
  obtain ⟨a2, e2, rfl, w2⟩ := DataW.trod_int Tryd.underlying3 t2
  simp at e0 e1 e2; subst e0 e1 e2
  match cs, hl, h0, h1, h2 with
  | [c0, c1, c2], _, h0, h1, h2 =>
    simp at h0 h1 h2; subst h0 h1 h2
    match ys, hyl, g0, g1, g2 with
    | [z0, z1, z2], _, g0, g1, g2 =>
      simp at g0 g1 g2; subst g0 g1 g2
      have b2 := bounds_i64 w2
      unfold maxLen at w0 w1
      exact ⟨⟨s0, s1, a2⟩, rfl, by rw [hd]; rfl, ⟨w0, w1⟩, b2.1, b2.2⟩
/-- Everything of a state fits the machine. -/
structure StOk (s : St) : Prop where
  rev : i64B s.rev
  j : ∀ x ∈ s.jobs, okJ x
  n : ∀ x ∈ s.nodes, okN x
  l : ∀ x ∈ s.leases, okL x
  lj : s.jobs.length ≤ 4398046511104
  ln : s.nodes.length ≤ 4398046511104
  ll : s.leases.length ≤ 4398046511104
theorem StOk.sz {s : St} (h : StOk s) : StSz s :=
  ⟨fun x hx => (h.j x hx).1, fun x hx => (h.n x hx).1, fun x hx => (h.n x hx).2, by have := h.lj; omega, by have := h.ln; omega, by have := h.ll; omega⟩
set_option maxRecDepth 100000 in
theorem slice_len {t e : TypeId} {α : Type} {datOf : α → DataW H} {l rest : List α} {b : Nat} (ht : Tryd.prog.underlying t = some (.slice e)) (hb : Tryd.prog.bytesOf e = b) (h32 : 32 ≤ b)
    (hw : ∀ n ∈ DataW.weights Tryd.prog t (.slice (l.map datOf) (rest.map datOf)), n ≤ reachBytes) : l.length ≤ 4398046511104 := by
  simp only [DataW.weights, ht, hb] at hw
  have := hw _ List.mem_cons_self
  have hr : reachBytes = 140737488351232 := rfl
  rw [List.length_map, List.length_map, hr] at this
  have : (l.length + rest.length) * 32 ≤ (l.length + rest.length) * b := Nat.mul_le_mul_left _ h32
  omega
set_option maxRecDepth 100000 in
theorem open_state {v : Value} {d : DataW H} {ps : List MemPlace} {ts : List TypeId} {ds : List (DataW H)} {j : Nat} {r : Reach} {b0 : Nat} (hv : Value.okWide Tryd.prog w r b0 33 v) (h : DataW.Trod enc Tryd.prog w base spare held 33 v d ps)
    (hsz : (DataW.weightsEach Tryd.prog ts ds).all (· ≤ reachBytes) = true) (htj : ts[j]? = some 33) (hdj : ds[j]? = some d) :
    ∃ (s : St) (p1 p2 p3 : Option Addr) (c1 c2 c3 : Nat), v = .agg #[.int .i64 s.rev, .slice p1 s.jobs.length c1, .slice p2 s.nodes.length c2, .slice p3 s.leases.length c3] ∧ StM w w.heap.size p1 p2 p3 s ∧ StOk s := by
  obtain ⟨v0, v1, v2, v3, y0, y1, y2, y3, n, rfl, rfl, _, t0, t1, t2, t3⟩ := open_agg4 Tryd.underlying33 (by kernel_rfl) (by kernel_rfl) hv h
  obtain ⟨a, e0, rfl, wa⟩ := DataW.trod_int Tryd.underlying3 t0
  simp at e0; subst e0
  obtain ⟨p1, c1, l1, rfl, hc1, hm1, hE1, hk1, hd1⟩ := open_rows1 rowJ datJ okJ 5 Tryd.underlying29 (by kernel_rfl) (by decide) t1 (fun n cs d pl => elem_J n cs d pl)
  obtain ⟨p2, c2, l2, rfl, hc2, hm2, hE2, hk2, hd2⟩ := open_rows1 rowN datN okN 3 Tryd.underlying30 (by kernel_rfl) (by decide) t2 (fun n cs d pl => elem_N n cs d pl)
  obtain ⟨p3, c3, l3, rfl, hc3, hm3, hE3, hk3, hd3⟩ := open_rows1 rowL datL okL 3 Tryd.underlying31 (by kernel_rfl) (by decide) t3 (fun n cs d pl => elem_L n cs d pl)
  have ba := bounds_i64 wa
  have hm : ∀ n ∈ DataW.weights Tryd.prog 33 (.agg [.lit (.int .i64 a), y1.1, y2.1, y3.1] : DataW H), n ≤ reachBytes := fun n hn =>
    of_decide_eq_true (List.all_eq_true.1 hsz _ (DataW.weights_mem_each (P := Tryd.prog) htj hdj n hn))
  simp only [DataW.weights, Tryd.underlying33, DataW.weightsEach, List.map_cons, List.map_nil, List.nil_append, List.append_nil] at hm
  refine ⟨⟨a, l1, l2, l3⟩, p1, p2, p3, c1, c2, c3, rfl, ⟨hE1, hE2, hE3⟩, ⟨ba.1, ba.2⟩, hk1, hk2, hk3, ?_, ?_, ?_⟩
  · rcases hd1 with ⟨rfl, _⟩ | ⟨rest, hd⟩
    · exact Nat.zero_le _
    · exact slice_len Tryd.underlying29 (b := 56) (by kernel_rfl) (by decide) (fun n hn => hm n (by rw [← hd] at hn; exact List.mem_append_left _ hn))
  · rcases hd2 with ⟨rfl, _⟩ | ⟨rest, hd⟩
    · exact Nat.zero_le _
    · exact slice_len Tryd.underlying30 (b := 40) (by kernel_rfl) (by decide) (fun n hn => hm n (by rw [← hd] at hn; exact List.mem_append_right _ (List.mem_append_left _ hn)))
  · rcases hd3 with ⟨rfl, _⟩ | ⟨rest, hd⟩
    · exact Nat.zero_le _
    · exact slice_len Tryd.underlying31 (b := 40) (by kernel_rfl) (by decide) (fun n hn => hm n (by rw [← hd] at hn; exact List.mem_append_right _ (List.mem_append_right _ hn)))
end
end Go.Proofs.YtbjngeaoimaooaaDoor
