/-
  Several texts in one: DelOpen.
-/
import Derived.Test.YtnmokjgnbcfabaaDoorPkStateB
import Derived.Test.YtnmokjgnbcfabaaDoorPkDelC
/-
  A delta that came in, opened: what it holds, where it lies, how large it is.
-/
set_option linter.unusedVariables false
set_option linter.unusedSimpArgs false
namespace Go.Proofs.YtnmokjgnbcfabaaDoor
open Go.RowKit Go.ChangeShapes Go.WideShapes Go.Deep Go.Joins
def datS {H : Type} (s : ByteArray) : DataW H := .lit (.string s.data.toList)
def okStr (s : ByteArray) : Prop := s.size ≤ 9223372036854775807
section
variable {H : Type} {enc : TypeId × Value → H} {w : World} {base : Nat} {spare : Nat → Bool} {held : Bool}
theorem elem_S (n : Nat) (cs : List Value) (d : DataW H) (pl : List MemPlace) (hl : cs.length = 1)
    (h : DataW.trod enc Tryd.prog w base spare held n 9 cs = some (d, pl)) : ∃ x : ByteArray, cs = rowS x ∧ d = datS x ∧ okStr x := by
  obtain ⟨s, e0, e1, ws⟩ := DataW.trod_string Tryd.underlying9 h
  simp only [Prod.mk.injEq] at e1
  unfold maxLen at ws
  exact ⟨s, e0, e1.1, ws⟩
theorem slice_len16 {t e : TypeId} {α : Type} {datOf : α → DataW H} {l rest : List α} {b : Nat} (ht : Tryd.prog.underlying t = some (.slice e)) (hb : Tryd.prog.bytesOf e = b) (h16 : 16 ≤ b)
    (hw : ∀ n ∈ DataW.weights Tryd.prog t (.slice (l.map datOf) (rest.map datOf)), n ≤ reachBytes) : l.length ≤ 8796093022208 := by
  simp only [DataW.weights, ht, hb] at hw
  have := hw _ List.mem_cons_self
  have hr : reachBytes = 140737488351232 := rfl
  rw [List.length_map, List.length_map, hr] at this
  have : (l.length + rest.length) * 16 ≤ (l.length + rest.length) * b := Nat.mul_le_mul_left _ h16
  omega
set_option maxRecDepth 100000 in
theorem open_delta {v : Value} {d : DataW H} {ps : List MemPlace} {ts : List TypeId} {ds : List (DataW H)} {j : Nat} {r : Reach} {b0 : Nat} (hv : Value.okWide Tryd.prog w r b0 51 v) (h : DataW.Trod enc Tryd.prog w base spare held 51 v d ps)
    (hsz : (DataW.weightsEach Tryd.prog ts ds).all (· ≤ reachBytes) = true) (htj : ts[j]? = some 51) (hdj : ds[j]? = some d) :
    ∃ (x : DeltaD) (p1 p2 p3 p4 p5 p6 : Option Addr) (c1 c2 c3 c4 c5 c6 : Nat), v = .agg #[.int .i64 x.frm, .int .i64 x.upto, .slice p1 x.jobs.length c1, .slice p2 x.nodes.length c2, .slice p3 x.leases.length c3, .slice p4 x.gj.length c4, .slice p5 x.gn.length c5, .slice p6 x.gl.length c6] ∧
      DelM w w.heap.size p1 p2 p3 p4 p5 p6 x ∧ DelOk x := by
  obtain ⟨cs, rfl, hcs⟩ := okWide_struct Tryd.underlying51 hv
  obtain ⟨fuel, hf⟩ := h
  have hl8 : cs.toList.length = 8 := by rw [Array.length_toList, hcs]; kernel_rfl
  have hf : DataW.trod enc Tryd.prog w base spare held fuel 51 cs.toList = some (d, ps) := hf
  obtain ⟨ys, n', hd, hyl, hF⟩ := struct_fields Tryd.underlying51 (by kernel_rfl) hl8 hf
  obtain ⟨v0, y0, h0, g0, t0⟩ := hF 0 _ rfl
  obtain ⟨v1, y1, h1, g1, t1⟩ := hF 1 _ rfl
  obtain ⟨v2, y2, h2, g2, t2⟩ := hF 2 _ rfl
  obtain ⟨v3, y3, h3, g3, t3⟩ := hF 3 _ rfl
  obtain ⟨v4, y4, h4, g4, t4⟩ := hF 4 _ rfl
  obtain ⟨v5, y5, h5, g5, t5⟩ := hF 5 _ rfl
  obtain ⟨v6, y6, h6, g6, t6⟩ := hF 6 _ rfl
  obtain ⟨v7, y7, h7, g7, t7⟩ := hF 7 _ rfl
  obtain ⟨a, e0, ey0, wa⟩ := DataW.trod_int Tryd.underlying3 t0
  obtain ⟨b, e1, ey1, wb⟩ := DataW.trod_int Tryd.underlying3 t1
  simp at e0 e1; subst e0 e1
  obtain ⟨p1, c1, l1, rfl, _, _, hE1, hk1, hd1⟩ := open_rows1 rowJ datJ okJ 5 Tryd.underlying22 (by kernel_rfl) (by decide) t2 (fun n cs d pl => elem_J n cs d pl)
  obtain ⟨p2, c2, l2, rfl, _, _, hE2, hk2, hd2⟩ := open_rows1 rowN datN okN 3 Tryd.underlying23 (by kernel_rfl) (by decide) t3 (fun n cs d pl => elem_N n cs d pl)
  obtain ⟨p3, c3, l3, rfl, _, _, hE3, hk3, hd3⟩ := open_rows1 rowL datL okL 3 Tryd.underlying24 (by kernel_rfl) (by decide) t4 (fun n cs d pl => elem_L n cs d pl)
  obtain ⟨p4, c4, l4, rfl, _, _, hE4, hk4, hd4⟩ := open_rows1 rowS datS okStr 1 Tryd.underlying49 (by kernel_rfl) (by decide) t5 (fun n cs d pl => elem_S n cs d pl)
  obtain ⟨p5, c5, l5, rfl, _, _, hE5, hk5, hd5⟩ := open_rows1 rowS datS okStr 1 Tryd.underlying49 (by kernel_rfl) (by decide) t6 (fun n cs d pl => elem_S n cs d pl)
  obtain ⟨p6, c6, l6, rfl, _, _, hE6, hk6, hd6⟩ := open_rows1 rowS datS okStr 1 Tryd.underlying49 (by kernel_rfl) (by decide) t7 (fun n cs d pl => elem_S n cs d pl)
  have hys : ys = [y0, y1, y2, y3, y4, y5, y6, y7] := by
    match ys, hyl, g0, g1, g2, g3, g4, g5, g6, g7 with
    | [z0, z1, z2, z3, z4, z5, z6, z7], _, g0, g1, g2, g3, g4, g5, g6, g7 =>
      simp at g0 g1 g2 g3 g4 g5 g6 g7; subst g0 g1 g2 g3 g4 g5 g6 g7; rfl
  have hcv : cs = #[.int .i64 a, .int .i64 b, .slice p1 l1.length c1, .slice p2 l2.length c2, .slice p3 l3.length c3, .slice p4 l4.length c4, .slice p5 l5.length c5, .slice p6 l6.length c6] := by
    obtain ⟨cl⟩ := cs
    match cl, hl8, h0, h1, h2, h3, h4, h5, h6, h7 with
    | [z0, z1, z2, z3, z4, z5, z6, z7], _, g0, g1, g2, g3, g4, g5, g6, g7 =>
      simp at g0 g1 g2 g3 g4 g5 g6 g7; subst g0 g1 g2 g3 g4 g5 g6 g7; rfl
  have hm : ∀ n ∈ DataW.weights Tryd.prog 51 d, n ≤ reachBytes := fun n hn =>
    of_decide_eq_true (List.all_eq_true.1 hsz _ (DataW.weights_mem_each (P := Tryd.prog) htj hdj n hn))
  subst ey0 ey1
  rw [hd, hys] at hm
  simp only [DataW.weights, Tryd.underlying51, DataW.weightsEach, List.map_cons, List.map_nil, List.nil_append, List.append_nil] at hm
  refine ⟨⟨a, b, l1, l2, l3, l4, l5, l6⟩, p1, p2, p3, p4, p5, p6, c1, c2, c3, c4, c5, c6, by rw [hcv], ⟨hE1, hE2, hE3, hE4, hE5, hE6⟩, ⟨⟨?_, ?_, ?_, ?_, ?_, ?_⟩, fun x hx => (hk1 x hx).1, fun x hx => (hk2 x hx).1, fun x hx => (hk3 x hx).1, hk4, hk5, hk6⟩⟩
  · rcases hd1 with ⟨rfl, _⟩ | ⟨rest, hd⟩
    · exact Nat.zero_le _
    · exact slice_len16 Tryd.underlying22 (b := 56) (by kernel_rfl) (by decide) (fun n hn => hm n (by rw [← hd] at hn; simp only [List.mem_append]; exact .inl hn))
  · rcases hd2 with ⟨rfl, _⟩ | ⟨rest, hd⟩
    · exact Nat.zero_le _
    · exact slice_len16 Tryd.underlying23 (b := 40) (by kernel_rfl) (by decide) (fun n hn => hm n (by rw [← hd] at hn; simp only [List.mem_append]; exact .inr (.inl hn)))
  · rcases hd3 with ⟨rfl, _⟩ | ⟨rest, hd⟩
    · exact Nat.zero_le _
    · exact slice_len16 Tryd.underlying24 (b := 40) (by kernel_rfl) (by decide) (fun n hn => hm n (by rw [← hd] at hn; simp only [List.mem_append]; exact .inr (.inr (.inl hn))))
  · rcases hd4 with ⟨rfl, _⟩ | ⟨rest, hd⟩
    · exact Nat.zero_le _
    · exact slice_len16 Tryd.underlying49 (b := 16) (by kernel_rfl) (by decide) (fun n hn => hm n (by rw [← hd] at hn; simp only [List.mem_append]; exact .inr (.inr (.inr (.inl hn)))))
  · rcases hd5 with ⟨rfl, _⟩ | ⟨rest, hd⟩
    · exact Nat.zero_le _
    · exact slice_len16 Tryd.underlying49 (b := 16) (by kernel_rfl) (by decide) (fun n hn => hm n (by rw [← hd] at hn; simp only [List.mem_append]; exact .inr (.inr (.inr (.inr (.inl hn))))))
  · rcases hd6 with ⟨rfl, _⟩ | ⟨rest, hd⟩
    · exact Nat.zero_le _
    · exact slice_len16 Tryd.underlying49 (b := 16) (by kernel_rfl) (by decide) (fun n hn => hm n (by rw [← hd] at hn; simp only [List.mem_append]; exact .inr (.inr (.inr (.inr (.inr hn))))))
end
end Go.Proofs.YtnmokjgnbcfabaaDoor
