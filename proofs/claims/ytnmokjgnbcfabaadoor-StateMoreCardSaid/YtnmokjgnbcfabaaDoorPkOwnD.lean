/-
  Several texts in one: OwnD, StDel.
-/
import Derived.Test.YtnmokjgnbcfabaaDoorPkOwn
import Derived.Test.YtnmokjgnbcfabaaDoorPkStateB
/-
  One row of an own slice taken out in place. No program but the rows' types.
-/
set_option linter.unusedVariables false
set_option linter.unusedSimpArgs false
namespace Go.Proofs.YtnmokjgnbcfabaaDoor
open Go.RowKit
theorem Own.tailAt {w : World} {base size c g : Nat} {E : TypeId} {rows : List (List Value)} (h : Own w base E size (some ⟨g, 0, none⟩) c rows) (i : Nat) (hi : i + 1 ≤ rows.length) :
    ∃ ad : Addr, (if c = i + 1 then some (⟨g, 0, none⟩ : Addr) else some ⟨g, (i + 1) * size, none⟩) = some ad ∧ ∀ j u, (rows.drop (i + 1)).flatten[j]? = some u → w.cell? (ad.add j) = some u := by
  have hc := h.cap
  by_cases hci : c = i + 1
  · refine ⟨⟨g, 0, none⟩, by rw [if_pos hci], fun j u hu => ?_⟩
    have hd : rows.drop (i + 1) = [] := List.drop_eq_nil_of_le (by omega)
    rw [hd] at hu
    simp at hu
  · refine ⟨⟨g, (i + 1) * size, none⟩, by rw [if_neg hci], fun j u hu => ?_⟩
    obtain ⟨k, l, r, rfl, hr, hl⟩ := flat_inv (rows.drop (i + 1)) size j u (fun x hx => h.1 x (List.mem_of_mem_drop hx)) hu
    rw [List.getElem?_drop] at hr
    have := (h.cellAt hr hl).1
    have hadd : (⟨g, (i + 1) * size, none⟩ : Addr).add (k * size + l) = ⟨g, (i + 1 + k) * size + l, none⟩ := by
      unfold Addr.add
      have e : (i + 1 + k) * size + l = (i + 1) * size + (k * size + l) := by rw [Nat.add_mul (i + 1) k size]; omega
      split
      · rename_i h0; rw [e, h0]; rfl
      · rw [e]
    rw [hadd]
    exact this
theorem Own.spare {w : World} {base size c g : Nat} {E : TypeId} {rows : List (List Value)} (h : Own w base E size (some ⟨g, 0, none⟩) c rows) (hn : 0 < rows.length) (i m : Nat) (him : i + m ≤ c) (o : Nat) (ho : o = i * size) :
    ∀ j, j < m * size → (w.cell? ⟨g, o + j, none⟩).isSome = true ∧ w.frozen? ⟨g, o + j, none⟩ = false := by
  intro j hj
  subst ho
  obtain ⟨g', cur, hp, _, hb, hs, _⟩ := h.where_ hn
  injection hp with hp
  injection hp with hp
  subst hp
  refine ⟨?_, hb.frozen _⟩
  rw [hb.cell]
  have h1 : i * size + m * size ≤ c * size := by rw [← Nat.add_mul]; exact Nat.mul_le_mul_right size him
  rw [Array.getElem?_eq_getElem (by omega)]
  rfl
section
variable {w : World} {base g : Nat} {q1 q2 q3 : Option Addr} {d1 d2 d3 : Nat} {s : St}
theorem StOwn.delL (h : StOwn w base q1 q2 (some ⟨g, 0, none⟩) d1 d2 d3 s) (i : Nat) (hi : i < s.leases.length) (o : Nat) (ho : o = i * 3) :
    StOwn (w.setCells g o ((s.leases.drop (i + 1)).map rowL).flatten) base q1 q2 (some ⟨g, 0, none⟩) d1 d2 d3 ⟨s.rev, s.jobs, s.nodes, s.leases.eraseIdx i⟩ := by
  subst ho
  obtain ⟨g', cur, hp, _, hb, hs, hc⟩ := h.l.where_ (by rw [List.length_map]; omega)
  injection hp with hp
  injection hp with hp
  subst hp
  rw [List.length_map] at hc
  have hg := grow_setCells g ((s.leases.drop (i + 1)).map rowL).flatten (i * 3) w
  refine ⟨h.j.other hg hb (by decide), h.n.other hg hb (by decide), ?_⟩
  have := h.l.lay_ i ((s.leases.drop (i + 1)).map rowL) (by rw [List.length_map]; omega) (by rw [List.length_map, List.length_drop]; omega) (fun r hr => by obtain ⟨x, _, rfl⟩ := List.mem_map.1 hr; rfl) (by omega)
  rw [List.eraseIdx_eq_take_drop_succ, List.map_append, List.map_take]
  exact this
theorem StOwn.delJ (h : StOwn w base (some ⟨g, 0, none⟩) q2 q3 d1 d2 d3 s) (i : Nat) (hi : i < s.jobs.length) (o : Nat) (ho : o = i * 5) :
    StOwn (w.setCells g o ((s.jobs.drop (i + 1)).map rowJ).flatten) base (some ⟨g, 0, none⟩) q2 q3 d1 d2 d3 ⟨s.rev, s.jobs.eraseIdx i, s.nodes, s.leases⟩ := by
  subst ho
  obtain ⟨g', cur, hp, _, hb, hs, hc⟩ := h.j.where_ (by rw [List.length_map]; omega)
  injection hp with hp
  injection hp with hp
  subst hp
  rw [List.length_map] at hc
  have hg := grow_setCells g ((s.jobs.drop (i + 1)).map rowJ).flatten (i * 5) w
  refine ⟨?_, h.n.other hg hb (by decide), h.l.other hg hb (by decide)⟩
  have := h.j.lay_ i ((s.jobs.drop (i + 1)).map rowJ) (by rw [List.length_map]; omega) (by rw [List.length_map, List.length_drop]; omega) (fun r hr => by obtain ⟨x, _, rfl⟩ := List.mem_map.1 hr; rfl) (by omega)
  rw [List.eraseIdx_eq_take_drop_succ, List.map_append, List.map_take]
  exact this
theorem StOwn.keepL (h : StOwn w base q1 q2 (some ⟨g, 0, none⟩) d1 d2 d3 s) (hn : 0 < s.leases.length) {b : Nat} {t : TypeId} {cs : Array Value} (hb : Blk w b t cs) (ht : 38 ≠ t) (o : Nat) (vs : List Value) : Blk (w.setCells g o vs) b t cs ∧ base ≤ g := by
  obtain ⟨g', cur, hp, hB, hg, _, _⟩ := h.l.where_ (by rw [List.length_map]; exact hn)
  injection hp with hp
  injection hp with hp
  subst hp
  exact ⟨hb.gr (grow_setCells g vs o w) (fun e => (hg.ne_ hb ht) e.symm), hB⟩
theorem StOwn.keepJs (h : StOwn w base (some ⟨g, 0, none⟩) q2 q3 d1 d2 d3 s) (hn : 0 < s.jobs.length) {b : Nat} {t : TypeId} {cs : Array Value} (hb : Blk w b t cs) (ht : 32 ≠ t) (o : Nat) (vs : List Value) : Blk (w.setCells g o vs) b t cs ∧ base ≤ g := by
  obtain ⟨g', cur, hp, hB, hg, _, _⟩ := h.j.where_ (by rw [List.length_map]; exact hn)
  injection hp with hp
  injection hp with hp
  subst hp
  exact ⟨hb.gr (grow_setCells g vs o w) (fun e => (hg.ne_ hb ht) e.symm), hB⟩
end
theorem below_setCells {B g : Nat} {a w : World} (h : Below B a w) (hB : B ≤ a.heap.size) (hg : B ≤ g) (o : Nat) (vs : List Value) : Below B a (w.setCells g o vs) :=
  h.trans ⟨(grow_setCells g vs o w).os, (grow_setCells g vs o w).tape, (grow_setCells g vs o w).output, (grow_setCells g vs o w).size, fun k hk => (grow_setCells g vs o w).block k (by have := h.size; omega) (fun e => by injection e with e; omega)⟩
end Go.Proofs.YtnmokjgnbcfabaaDoor

/-
  Plain: sizes of a state without one of its rows.
-/
set_option linter.unusedVariables false
set_option linter.unusedSimpArgs false
namespace Go.Proofs.YtnmokjgnbcfabaaDoor
theorem StSz.delL {s : St} (h : StSz s) (i : Nat) : StSz ⟨s.rev, s.jobs, s.nodes, s.leases.eraseIdx i⟩ := ⟨h.j, h.n, h.nr, h.lj, h.ln, Nat.le_trans (List.length_eraseIdx_le _ _) h.ll⟩
theorem StSz.delJ {s : St} (h : StSz s) (i : Nat) : StSz ⟨s.rev, s.jobs.eraseIdx i, s.nodes, s.leases⟩ := ⟨fun x hx => h.j x (List.mem_of_mem_eraseIdx hx), h.n, h.nr, Nat.le_trans (List.length_eraseIdx_le _ _) h.lj, h.ln, h.ll⟩
theorem erase_len {α : Type} (l : List α) (i : Nat) (h : i < l.length) : i + (l.length - (i + 1)) = (l.eraseIdx i).length := by
  rw [List.length_eraseIdx, if_pos h]; omega
end Go.Proofs.YtnmokjgnbcfabaaDoor
