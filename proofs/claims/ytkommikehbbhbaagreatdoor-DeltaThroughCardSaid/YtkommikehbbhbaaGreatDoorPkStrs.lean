/-
  Several texts in one: Strs.
-/
import Derived.Test.YtkommikehbbhbaaGreatDoorRows
import Derived.Test.YtkommikehbbhbaaGreatDoorPkBase
/-
  Slices of strings of the call's own; slices of ints and of strings that came in.
-/
set_option linter.unusedVariables false
set_option linter.unusedSimpArgs false
namespace Go.Proofs.YtkommikehbbhbaaGreatDoor
open Go.RowKit Go.ChangeShapes Go.WideShapes Go.Deep
def OwnS (w : World) (base : Nat) (v : Value) (l : List ByteArray) : Prop := w.ownsRow base 9 1 v l.length (l.map Value.string)
theorem OwnS.below {a b : World} {base : Nat} {v : Value} {l : List ByteArray} (h : OwnS a base v l) (hb : Below a.heap.size a b) : OwnS b base v l :=
  World.ownsRow.kept (row := none) h ⟨hb.os, hb.tape, hb.output, hb.size, fun k hk _ => hb.block k hk⟩ (Classical.em _)
theorem OwnS.alloc {a : World} {base : Nat} {v : Value} {l : List ByteArray} (h : OwnS a base v l) (o : Obj) : OwnS (a.alloc o) base v l := World.ownsRow.alloc h o
theorem OwnS.form {w : World} {base : Nat} {v : Value} {l : List ByteArray} (h : OwnS w base v l) : ∃ a c, v = .slice a l.length c := by
  rcases h.2 with ⟨rfl, h0⟩ | ⟨g, cap, cur, rfl, _⟩
  · exact ⟨none, 0, by rw [h0]⟩
  · exact ⟨_, cap, rfl⟩
def rowS (s : ByteArray) : List Value := [.string s]
theorem rowsS_flat (l : List ByteArray) : (l.map rowS).flatten = l.map Value.string := by
  induction l with
  | nil => rfl
  | cons x r ih => simp only [List.map_cons, List.flatten_cons, ih, rowS, List.cons_append, List.nil_append]
theorem rowsS_size (l : List ByteArray) : ∀ r ∈ l.map rowS, r.length = 1 := by
  intro r hr
  obtain ⟨x, _, rfl⟩ := List.mem_map.1 hr
  rfl
theorem OwnS.elts {w : World} {base : Nat} {p : Option Addr} {c : Nat} {l : List ByteArray} (h : OwnS w base (.slice p l.length c) l) : Elts w w.heap.size 1 p (l.map rowS) :=
  .of_own (c := c) (rowsS_size l) (by rw [List.length_map, rowsS_flat]; exact h)
/-- A slice of the call's own lies from 'base' on. -/
theorem own_ne {w : World} {base : Nat} {e : TypeId} {size n m c : Nat} {xs : List Value} {p : Option Addr} (h : w.ownsRow base e size (.slice p n c) m xs) {g : Nat} (hg : g < base) : ∀ a, p = some a → a.block ≠ g := by
  rintro a rfl
  rcases h.2 with ⟨h0, _⟩ | ⟨g', cap, cur, h0, hb, _⟩
  · simp at h0
  · simp at h0
    obtain ⟨rfl, _⟩ := h0
    show g' ≠ g
    omega
theorem own_ge {w : World} {base : Nat} {e : TypeId} {size n m c : Nat} {xs : List Value} {p : Option Addr} (h : w.ownsRow base e size (.slice p n c) m xs) : ∀ a, p = some a → base ≤ a.block := by
  rintro a rfl
  rcases h.2 with ⟨h0, _⟩ | ⟨g', cap, cur, h0, hb, _⟩
  · simp at h0
  · simp at h0
    obtain ⟨rfl, _⟩ := h0
    exact hb
theorem string_info : (Tryz.prog.info? 9).map (fun i => (i.zero, i.size, i.bytes)) = some (some (.string ByteArray.empty), 1, 16) := by kernel_rfl
section
variable {w : World} {ops : Array Oper} {rest : List Oper} {o : Oper} {a : Act} {Q : Exit → Act → World → Prop}
theorem wpList_append_str (hgd : o.guard = none) (s x : Operand)
    (ho : o.op = .call { callee := .builtin .append, args := #[s, x], argTypes := #[28, 28] })
    (base : Nat) (v : Value) (acc : List ByteArray) (hs : a.eval s = v) (hown : OwnS w base v acc) (g : Nat) (y : ByteArray) (hx : a.eval x = .slice (some ⟨g, 0, none⟩) 1 1)
    (hb : Blk w g 9 #[Value.string y]) (hlen : acc.length + 1 ≤ 4398046511104) (hbase : base ≤ w.heap.size)
    (h : ∀ v' w', OwnS w' base v' (acc ++ [y]) → Below base w w' → wpList Tryz.prog ops Q rest (a.put o.dst v') w') : wpList Tryz.prog ops Q (o :: rest) a w := by
  obtain ⟨i0, hi, hz0, hz1, hz2⟩ := info_parts string_info
  refine wpList_append_own w hgd s x 28 ho base 9 i0 _ 1 16 Tryz.underlying28 hi hz0 hz1 hz2 rfl (by decide) v acc.length (acc.map Value.string) hs hown ⟨g, 0, none⟩ 1 1 [Value.string y] hx rfl ?_ ?_ ?_ ?_ hbase ?_
  · exact World.news_of_block hb
  · simp [Value.oneCell']
  · simp only [maxLen]; omega
  · omega
  · intro v' w' hown' hg _
    refine h v' w' ?_ ?_
    · unfold OwnS
      rw [List.map_append, List.length_append]
      exact hown'
    · exact (Below.refl base w).grown hg hbase (fun k hk => (World.ownsRow.lt hown k hk).1)
end
def rowI (z : Int) : List Value := [.int .i64 z]
def datI {H : Type} (z : Int) : DataW H := .lit (.int .i64 z)
def okI (z : Int) : Prop := -9223372036854775808 ≤ z ∧ z ≤ 9223372036854775807
theorem elem_I {H : Type} {enc : TypeId × Value → H} {w : World} {base : Nat} {spare : Nat → Bool} {held : Bool} (n : Nat) (cs : List Value) (d : DataW H) (pl : List MemPlace) (hl : cs.length = 1)
    (h : DataW.trod enc Tryz.prog w base spare held n 3 cs = some (d, pl)) : ∃ x : Int, cs = rowI x ∧ d = datI x ∧ okI x := by
  obtain ⟨a, e0, e1, wa⟩ := DataW.trod_int Tryz.underlying3 h
  simp only [Prod.mk.injEq] at e1
  have ba := bounds_i64 wa
  exact ⟨a, e0, e1.1, ba.1, ba.2⟩
theorem Elts.cell1 {w : World} {B : Nat} {p : Option Addr} {α : Type} {l : List α} {f : α → Value} (h : Elts w B 1 p (l.map fun x => [f x])) {k : Nat} {x : α} (hx : l[k]? = some x) : ∃ a, p = some a ∧ a.block < B ∧ w.cell? (a.add k) = some (f x) := by
  obtain ⟨a, e, hb, _, hat⟩ := h.at_ (k := k) (r := [f x]) (by rw [List.getElem?_map, hx]; rfl)
  refine ⟨a, e, hb, ?_⟩
  have := hat 0 _ rfl
  rwa [Nat.mul_one, add_of_add, Nat.add_zero] at this
theorem bulk_one {H : Type} (d : DataW H) : 1 ≤ Rows.uptoBulk d := by
  cases d with
  | lit l => cases l <;> simp [Rows.uptoBulk]
  | nil => simp [Rows.uptoBulk]
  | ptr d => simp [Rows.uptoBulk]
  | slice elems spare => simp [Rows.uptoBulk]
  | agg parts => simp [Rows.uptoBulk]
  | iface t d => simp [Rows.uptoBulk]
  | map entries => simp [Rows.uptoBulk]
  | held h => simp [Rows.uptoBulk]
theorem bulk_len {H : Type} (l : List (DataW H)) : l.length ≤ Rows.uptoBulkAll l := by
  induction l with
  | nil => simp
  | cons x r ih => have := bulk_one x; simp only [Rows.uptoBulkAll, List.length_cons]; omega
theorem bulk_mem {H : Type} {l : List (DataW H)} {d : DataW H} (h : d ∈ l) : Rows.uptoBulk d ≤ Rows.uptoBulkAll l := by
  induction l with
  | nil => cases h
  | cons x r ih =>
    simp only [Rows.uptoBulkAll]
    rcases List.mem_cons.1 h with rfl | h
    · omega
    · have := ih h; omega
theorem rows_bulk {H α : Type} {datOf : α → DataW H} {l : List α} {p : Option Addr} {c : Nat} {d : DataW H} (hd : (l = [] ∧ p = none ∧ c = 0 ∧ d = .nil) ∨ ∃ rest : List α, d = .slice (l.map datOf) (rest.map datOf)) : l.length ≤ Rows.uptoBulk d := by
  rcases hd with ⟨rfl, _⟩ | ⟨rest, rfl⟩
  · simp
  · have := bulk_len (l.map datOf)
    simp only [Rows.uptoBulk, List.length_map] at this ⊢
    omega
end Go.Proofs.YtkommikehbbhbaaGreatDoor
