/-
  Several texts in one: DelOpen, DelsI.
-/
import Derived.Test.YtibiankbmhdljabGreatDoorPkDelC
set_option linter.all false
set_option maxHeartbeats 16000000
set_option maxRecDepth 100000
namespace Go.Proofs.YtibiankbmhdljabGreatDoor
open Go.Proofs.Tryz
open Go.RowKit Go.ChangeShapes Go.WideShapes Go.Deep Go.Joins
def datS {H : Type} (s : ByteArray) : DataW H := .lit (.string s.data.toList)
def okStr (s : ByteArray) : Prop := s.size <= 9223372036854775807
section
variable {H : Type} {enc : TypeId × Value -> H} {w : World} {base : Nat} {spare : Nat -> Bool} {held : Bool}
theorem vky (n : Nat) (cs : List Value) (d : DataW H) (pl : List MemPlace) (hl : cs.length = 1)
  (h : DataW.trod enc prog w base spare held n 9 cs = some (d, pl)) : ∃ x : ByteArray, cs = rowS x ∧ d = datS x ∧ okStr x := by
 obtain ⟨s, e0, e1, ws⟩ := DataW.trod_string underlying9 h
 simp only [Prod.mk.injEq] at e1
 unfold maxLen at ws
 exact ⟨s, e0, e1.1, ws⟩
theorem ux2 {t e : TypeId} {α : Type} {datOf : α -> DataW H} {l rest : List α} {b : Nat} (ht : prog.underlying t = some (.slice e)) (hb : prog.bytesOf e = b) (h16 : 16 <= b)
  (hw : ∀ n ∈ DataW.weights prog t (.slice (l.map datOf) (rest.map datOf)), n <= reachBytes) : l.length <= 8796093022208 := by
 simp only [DataW.weights, ht, hb] at hw
 have := hw _ List.mem_cons_self
 have hr : reachBytes = 140737488351232 := rfl
 rw [zre, zre, hr] at this
 have : (l.length + rest.length) * 16 <= (l.length + rest.length) * b := Nat.mul_le_mul_left _ h16
 omega
end
structure DelI (H : Type) where
 d : uq1
 p1 : Option Addr
 p2 : Option Addr
 p3 : Option Addr
 p4 : Option Addr
 p5 : Option Addr
 p6 : Option Addr
 c1 : Nat
 c2 : Nat
 c3 : Nat
 c4 : Nat
 c5 : Nat
 c6 : Nat
 dw : DataW H
def rowDI {H : Type} (x : DelI H) : List Value := [.int .i64 x.d.frm, .int .i64 x.d.upto, .slice x.p1 x.d.jobs.length x.c1, .slice x.p2 x.d.nodes.length x.c2, .slice x.p3 x.d.leases.length x.c3, .slice x.p4 x.d.gj.length x.c4, .slice x.p5 x.d.gn.length x.c5, .slice x.p6 x.d.gl.length x.c6]
def okDI {H : Type} (w : World) (x : DelI H) : Prop := DelM w w.heap.size x.p1 x.p2 x.p3 x.p4 x.p5 x.p6 x.d ∧ ((∀ n ∈ DataW.weights prog 49 x.dw, n <= reachBytes) -> DelOk x.d)
section
variable {H : Type} {enc : TypeId × Value -> H} {w : World} {base : Nat} {spare : Nat -> Bool} {held : Bool}
theorem elem_D (n : Nat) (cs : List Value) (d : DataW H) (pl : List MemPlace) (hl : cs.length = 8)
  (h : DataW.trod enc prog w base spare held n 49 cs = some (d, pl)) : ∃ x : DelI H, cs = rowDI x ∧ d = x.dw ∧ okDI w x := by
 obtain ⟨ys, n', hd, hyl, hF⟩ := uz7 underlying49 (by kernel_rfl) hl h
 obtain ⟨v0, y0, h0, g0, t0⟩ := hF 0 _ rfl
 obtain ⟨v1, y1, h1, g1, t1⟩ := hF 1 _ rfl
 obtain ⟨v2, y2, h2, g2, t2⟩ := hF 2 _ rfl
 obtain ⟨v3, y3, h3, g3, t3⟩ := hF 3 _ rfl
 obtain ⟨v4, y4, h4, g4, t4⟩ := hF 4 _ rfl
 obtain ⟨v5, y5, h5, g5, t5⟩ := hF 5 _ rfl
 obtain ⟨v6, y6, h6, g6, t6⟩ := hF 6 _ rfl
 obtain ⟨v7, y7, h7, g7, t7⟩ := hF 7 _ rfl
 obtain ⟨a, e0, ey0, wa⟩ := DataW.trod_int underlying3 t0
 obtain ⟨b, e1, ey1, wb⟩ := DataW.trod_int underlying3 t1
 simp at e0 e1; subst e0 e1
 obtain ⟨p1, c1, l1, rfl, _, _, hE1, hk1, hd1⟩ := uxs rowJ datJ okJ 5 underlying31 (by kernel_rfl) (by decide) t2 (fun n cs d pl => vy6 n cs d pl)
 obtain ⟨p2, c2, l2, rfl, _, _, hE2, hk2, hd2⟩ := uxs rowN datN okN 3 underlying32 (by kernel_rfl) (by decide) t3 (fun n cs d pl => wju n cs d pl)
 obtain ⟨p3, c3, l3, rfl, _, _, hE3, hk3, hd3⟩ := uxs rowL datL okL 3 underlying33 (by kernel_rfl) (by decide) t4 (fun n cs d pl => vy7 n cs d pl)
 obtain ⟨p4, c4, l4, rfl, _, _, hE4, hk4, hd4⟩ := uxs rowS datS okStr 1 underlying29 (by kernel_rfl) (by decide) t5 (fun n cs d pl => vky n cs d pl)
 obtain ⟨p5, c5, l5, rfl, _, _, hE5, hk5, hd5⟩ := uxs rowS datS okStr 1 underlying29 (by kernel_rfl) (by decide) t6 (fun n cs d pl => vky n cs d pl)
 obtain ⟨p6, c6, l6, rfl, _, _, hE6, hk6, hd6⟩ := uxs rowS datS okStr 1 underlying29 (by kernel_rfl) (by decide) t7 (fun n cs d pl => vky n cs d pl)
 have hys : ys = [y0, y1, y2, y3, y4, y5, y6, y7] := by
  match ys, hyl, g0, g1, g2, g3, g4, g5, g6, g7 with
  | [z0, z1, z2, z3, z4, z5, z6, z7], _, g0, g1, g2, g3, g4, g5, g6, g7 =>
   simp at g0 g1 g2 g3 g4 g5 g6 g7; subst g0 g1 g2 g3 g4 g5 g6 g7; rfl
 have hcv : cs = [.int .i64 a, .int .i64 b, .slice p1 l1.length c1, .slice p2 l2.length c2, .slice p3 l3.length c3, .slice p4 l4.length c4, .slice p5 l5.length c5, .slice p6 l6.length c6] := by
  match cs, hl, h0, h1, h2, h3, h4, h5, h6, h7 with
  | [z0, z1, z2, z3, z4, z5, z6, z7], _, g0, g1, g2, g3, g4, g5, g6, g7 =>
   simp at g0 g1 g2 g3 g4 g5 g6 g7; subst g0 g1 g2 g3 g4 g5 g6 g7; rfl
 refine ⟨⟨⟨a, b, l1, l2, l3, l4, l5, l6⟩, p1, p2, p3, p4, p5, p6, c1, c2, c3, c4, c5, c6, d⟩, hcv, rfl, ⟨hE1, hE2, hE3, hE4, hE5, hE6⟩, fun hm => ?_⟩
 subst ey0 ey1
 simp only at hm
 rw [hd, hys] at hm
 simp only [DataW.weights, underlying49, DataW.weightsEach, List.map_cons, List.map_nil, List.nil_append, List.append_nil] at hm
 refine ⟨⟨?_, ?_, ?_, ?_, ?_, ?_⟩, fun x hx => (hk1 x hx).1, fun x hx => (hk2 x hx).1, fun x hx => (hk3 x hx).1, hk4, hk5, hk6⟩
 ·rcases hd1 with ⟨rfl, _⟩ | ⟨rest, hd⟩
  ·exact Nat.zero_le _
  ·exact ux2 underlying31 (b := 56) (by kernel_rfl) (by decide) (fun n hn => hm n (by rw [<- hd] at hn; simp only [List.mem_append]; exact .inl hn))
 ·rcases hd2 with ⟨rfl, _⟩ | ⟨rest, hd⟩
  ·exact Nat.zero_le _
  ·exact ux2 underlying32 (b := 40) (by kernel_rfl) (by decide) (fun n hn => hm n (by rw [<- hd] at hn; simp only [List.mem_append]; exact .inr (.inl hn)))
 ·rcases hd3 with ⟨rfl, _⟩ | ⟨rest, hd⟩
  ·exact Nat.zero_le _
  ·exact ux2 underlying33 (b := 40) (by kernel_rfl) (by decide) (fun n hn => hm n (by rw [<- hd] at hn; simp only [List.mem_append]; exact .inr (.inr (.inl hn))))
 ·rcases hd4 with ⟨rfl, _⟩ | ⟨rest, hd⟩
  ·exact Nat.zero_le _
  ·exact ux2 underlying29 (b := 16) (by kernel_rfl) (by decide) (fun n hn => hm n (by rw [<- hd] at hn; simp only [List.mem_append]; exact .inr (.inr (.inr (.inl hn)))))
 ·rcases hd5 with ⟨rfl, _⟩ | ⟨rest, hd⟩
  ·exact Nat.zero_le _
  ·exact ux2 underlying29 (b := 16) (by kernel_rfl) (by decide) (fun n hn => hm n (by rw [<- hd] at hn; simp only [List.mem_append]; exact .inr (.inr (.inr (.inr (.inl hn))))))
 ·rcases hd6 with ⟨rfl, _⟩ | ⟨rest, hd⟩
  ·exact Nat.zero_le _
  ·exact ux2 underlying29 (b := 16) (by kernel_rfl) (by decide) (fun n hn => hm n (by rw [<- hd] at hn; simp only [List.mem_append]; exact .inr (.inr (.inr (.inr (.inr hn))))))
theorem open_deltas {v : Value} {d : DataW H} {ps : List MemPlace} {ts : List TypeId} {ds : List (DataW H)} {j : Nat} {r : Reach} {b0 : Nat} (hv : Value.okWide prog w r b0 47 v) (h : DataW.Trod enc prog w base spare held 47 v d ps)
  (hsz : (DataW.weightsEach prog ts ds).all (· <= reachBytes) = true) (htj : ts[j]? = some 47) (hdj : ds[j]? = some d) :
  ∃ (p : Option Addr) (c : Nat) (l : List (DelI H)), v = .slice p l.length c ∧ Elts w w.heap.size 8 p (l.map rowDI) ∧ (∀ x ∈ l, DelM w w.heap.size x.p1 x.p2 x.p3 x.p4 x.p5 x.p6 x.d ∧ DelOk x.d) ∧ l.length <= 9223372036854775807 := by
 obtain ⟨p, c, l, rfl, hlc, hcm, hel, hok, hd⟩ := wqq rowDI (fun x : DelI H => x.dw) (okDI w) 8 underlying47 (by kernel_rfl) (by decide) hv h (fun n cs d pl => elem_D n cs d pl)
 have hm : ∀ n ∈ DataW.weights prog 47 d, n <= reachBytes := fun n hn =>
  of_decide_eq_true (List.all_eq_true.1 hsz _ (DataW.weights_mem_each (P := prog) htj hdj n hn))
 refine ⟨p, c, l, rfl, hel, fun x hx => ⟨(hok x hx).1, (hok x hx).2 fun n hn => ?_⟩, by unfold maxLen at hcm; omega⟩
 rcases hd with ⟨rfl, _⟩ | ⟨rest, rfl⟩
 ·cases hx
 ·refine hm n ?_
  simp only [DataW.weights, underlying47]
  exact List.mem_cons_of_mem _ (List.mem_append_left _ (vqh (List.mem_map_of_mem (f := fun x : DelI H => x.dw) hx) n hn))
end
end Go.Proofs.YtibiankbmhdljabGreatDoor
