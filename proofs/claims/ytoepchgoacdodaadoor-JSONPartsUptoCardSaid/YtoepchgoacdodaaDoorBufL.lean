/-
 Literals of bytes behind a buffer, in rows of operations and in regions that draw their order. No program.
-/
import Derived.Test.YtoepchgoacdodaaDoorRows0
import Derived.Lib.OthersKept
set_option linter.unusedVariables false
set_option linter.unusedSimpArgs false
namespace Go.Proofs.YtoepchgoacdodaaDoor
open Go.RowKit
/-- Below block B nothing has turned; nor has any block but those of element type U, and new ones. -/
def Gr (U : TypeId) (B : Nat) (w w' : World) : Prop := Below B w w' ∧ Lib.OthersKept U none w w'
section
variable {U : TypeId} {B : Nat} {w w' w2 : World}
theorem Gr.refl (U : TypeId) (B : Nat) (w : World) : Gr U B w w := ⟨Below.refl _ _, Lib.OthersKept.refl _ _ _⟩
theorem Gr.trans (h : Gr U B w w') (k : Gr U B w' w2) : Gr U B w w2 := ⟨h.1.trans k.1, h.2.trans k.2⟩
theorem Gr.of_new (hB : B ≤ w.heap.size) (h : Below w.heap.size w w') : Gr U B w w' :=
  ⟨h.mono hB, fun k o hk _ _ => (h.block k (Array.getElem?_eq_some_iff.1 hk).1).trans hk⟩
theorem Gr.alloc (hB : B ≤ w.heap.size) (o : Obj) : Gr U B w (w.alloc o) := Gr.of_new hB ((Below.refl _ _).alloc (Nat.le_refl _) o)
theorem Gr.drew (U : TypeId) (B : Nat) (w : World) : Gr U B w w.drew := ⟨(Below.refl _ _).drew, fun _ _ h _ _ => h⟩
theorem Gr.size (h : Gr U B w w') : w.heap.size ≤ w'.heap.size := h.1.size
theorem Gr.blk (h : Gr U B w w') {g : Nat} {t : TypeId} {cs : Array Value} (hb : Blk w g t cs) (ht : t ≠ U) : Blk w' g t cs :=
  h.2 g _ hb (by simp) (fun c fz hc => by injection hc with _ hc _; exact ht hc)
theorem Gr.mono {B' : Nat} (h : Gr U B w w') (hB : B' ≤ B) : Gr U B' w w' := ⟨h.1.mono hB, h.2⟩
end
section
variable {P : Program} {o : Oper} {a : Act} {Q : Exit → Act → World → Prop}
/-- What is put behind a buffer reads so. -/
theorem wp_buf {w : World} {K : Act → World → Prop} (s x : Operand) (t : TypeId)
    (ho : o.op = .call { callee := .builtin .append, args := #[s, x], argTypes := #[t, t] })
    (U : TypeId) (ht : P.underlying t = some (.slice U)) (hinfo : (P.info? U).map (fun i => (i.zero, i.size, i.bytes)) = some (some (.int .u8 0), 1, 1))
    (base : Nat) (v : Value) (l : List UInt8) (hs : a.eval s = v) (hbuf : Buf U w base v l) (B : Nat) (A : Option Addr) (n c : Nat) (news : List UInt8) (hx : a.eval x = .slice A n c) (hm : n = news.length)
    (hr : Reads w B 1 A n (bytesV news)) (hlen : l.length + news.length ≤ 140737488355328) (hbase : base ≤ w.heap.size)
    (h : ∀ v' w', Buf U w' base v' (l ++ news) → Gr U base w w' → K (a.put o.dst v') w') : Oper.wp P o a w K Q := by
  obtain ⟨i0, hi, hz, hz1, hz2⟩ := info_parts hinfo
  subst hm
  refine wp_append_any w s x t ho base U i0 (.int .u8 0) 1 1 ht hi hz hz1 hz2 rfl (by decide) v l.length (bytesV l) hs hbuf B A news.length c (bytesV news) hx hr ?_ (by simp only [maxLen]; omega) (by omega) hbase ?_
  · intro u hu
    simp only [bytesV, List.mem_map] at hu
    obtain ⟨u', _, rfl⟩ := hu
    rfl
  · intro v' w' hown hg _
    refine h v' w' ?_ ⟨(Below.refl base w).grown hg hbase (fun k hk => (World.ownsRow.lt hbuf k hk).1), fun k o hk _ ho => (hg.block k (Array.getElem?_eq_some_iff.1 hk).1 (fun h0 => ?_)).trans hk⟩
    rotate_left
    · rcases hbuf.2 with ⟨rfl, _⟩ | ⟨g, cap, cur, rfl, _, hg', _⟩
      · cases h0
      · simp only [Value.ownBlock, Option.some.injEq] at h0
        subst h0
        rw [hk] at hg'; injection hg' with hg'
        exact ho _ _ hg'
    unfold Buf
    rw [bytesV_append, List.length_append]
    exact hown
variable {W : World}
theorem reads_lit {xs : Array Value} {T : TypeId} {news : List UInt8} (hn : xs.toList = bytesV news) : Reads (W.alloc (.cells xs T)) (W.heap.size + 1) 1 (some ⟨W.heap.size, 0, none⟩) news.length (bytesV news) := by
  refine ⟨by simp [bytesV], fun _ => ⟨_, rfl, by simp, ?_⟩⟩
  intro j u hj
  simp only [bytesV, List.getElem?_map, Option.map_eq_some_iff] at hj
  obtain ⟨u', hu, rfl⟩ := hj
  exact cells_new W xs T news hn j u' hu
/-- A literal, just made. -/
theorem wp_buf_lit {K : Act → World → Prop} (s x : Operand) (t : TypeId)
    (ho : o.op = .call { callee := .builtin .append, args := #[s, x], argTypes := #[t, t] })
    (U : TypeId) (ht : P.underlying t = some (.slice U)) (hinfo : (P.info? U).map (fun i => (i.zero, i.size, i.bytes)) = some (some (.int .u8 0), 1, 1))
    (base : Nat) (v : Value) (l : List UInt8) (hs : a.eval s = v) (hbuf : Buf U W base v l) (xs : Array Value) (T : TypeId) (news : List UInt8) (hn : xs.toList = bytesV news)
    (n c : Nat) (hx : a.eval x = .slice (some ⟨W.heap.size, 0, none⟩) n c) (hm : n = news.length)
    (hlen : l.length + news.length ≤ 140737488355328) (hbase : base ≤ W.heap.size)
    (h : ∀ v' w', Buf U w' base v' (l ++ news) → Gr U base W w' → K (a.put o.dst v') w') : Oper.wp P o a (W.alloc (.cells xs T)) K Q :=
  wp_buf s x t ho U ht hinfo base v l hs (hbuf.alloc _) _ _ n c news hx hm (by subst hm; exact reads_lit hn) hlen (by simp; omega)
    (fun v' w' hb hl => h v' w' hb ((Gr.alloc hbase _).trans hl))
theorem wpList_buf_lit {ops : Array Oper} {rest : List Oper} (hgd : o.guard = none) (s x : Operand) (t : TypeId)
    (ho : o.op = .call { callee := .builtin .append, args := #[s, x], argTypes := #[t, t] })
    (U : TypeId) (ht : P.underlying t = some (.slice U)) (hinfo : (P.info? U).map (fun i => (i.zero, i.size, i.bytes)) = some (some (.int .u8 0), 1, 1))
    (base : Nat) (v : Value) (l : List UInt8) (hs : a.eval s = v) (hbuf : Buf U W base v l) (xs : Array Value) (T : TypeId) (news : List UInt8) (hn : xs.toList = bytesV news)
    (n c : Nat) (hx : a.eval x = .slice (some ⟨W.heap.size, 0, none⟩) n c) (hm : n = news.length)
    (hlen : l.length + news.length ≤ 140737488355328) (hbase : base ≤ W.heap.size)
    (h : ∀ v' w', Buf U w' base v' (l ++ news) → Gr U base W w' → wpList P ops Q rest (a.put o.dst v') w') : wpList P ops Q (o :: rest) a (W.alloc (.cells xs T)) :=
  wpList_plain hgd fun _ hK => wp_buf_lit s x t ho U ht hinfo base v l hs hbuf xs T news hn n c hx hm hlen hbase fun v' w' h1 h2 => hK _ _ (h v' w' h1 h2)
theorem step_buf_lit {ops : Array Oper} {K : Act → World → Prop} {E : Prop} (hgd : o.guard = none) (s x : Operand) (t : TypeId)
    (ho : o.op = .call { callee := .builtin .append, args := #[s, x], argTypes := #[t, t] })
    (U : TypeId) (ht : P.underlying t = some (.slice U)) (hinfo : (P.info? U).map (fun i => (i.zero, i.size, i.bytes)) = some (some (.int .u8 0), 1, 1))
    (base : Nat) (v : Value) (l : List UInt8) (hs : a.eval s = v) (hbuf : Buf U W base v l) (xs : Array Value) (T : TypeId) (news : List UInt8) (hn : xs.toList = bytesV news)
    (n c : Nat) (hx : a.eval x = .slice (some ⟨W.heap.size, 0, none⟩) n c) (hm : n = news.length)
    (hlen : l.length + news.length ≤ 140737488355328) (hbase : base ≤ W.heap.size)
    (h : ∀ v' w', Buf U w' base v' (l ++ news) → Gr U base W w' → K (a.put o.dst v') w') : if Region.wanted o (yielded ops a.tmps) = true then Oper.wp P o a (W.alloc (.cells xs T)) K Q else E := by
  have hw : Region.wanted o (yielded ops a.tmps) = true := by simp [Region.wanted, hgd]
  rw [if_pos hw]
  exact wp_buf_lit s x t ho U ht hinfo base v l hs hbuf xs T news hn n c hx hm hlen hbase h
/-- Another buffer of bytes behind a buffer. -/
theorem wpList_buf_buf {w : World} {ops : Array Oper} {rest : List Oper} (hgd : o.guard = none) (s x : Operand) (t : TypeId)
    (ho : o.op = .call { callee := .builtin .append, args := #[s, x], argTypes := #[t, t] })
    (U : TypeId) (ht : P.underlying t = some (.slice U)) (hinfo : (P.info? U).map (fun i => (i.zero, i.size, i.bytes)) = some (some (.int .u8 0), 1, 1))
    (base : Nat) (v : Value) (l : List UInt8) (hs : a.eval s = v) (hbuf : Buf U w base v l) (b2 : Nat) (y : Value) (news : List UInt8) (hx : a.eval x = y) (hy : Buf U w b2 y news)
    (hlen : l.length + news.length ≤ 140737488355328) (hbase : base ≤ w.heap.size)
    (h : ∀ v' w', Buf U w' base v' (l ++ news) → Gr U base w w' → wpList P ops Q rest (a.put o.dst v') w') : wpList P ops Q (o :: rest) a w := by
  have hyv : ∃ A c, y = .slice A news.length c := by
    rcases hy.2 with ⟨h, h0⟩ | ⟨g, cap, cur, h, _⟩
    · exact ⟨_, _, by rw [h, h0]⟩
    · exact ⟨_, _, h⟩
  obtain ⟨A, c, rfl⟩ := hyv
  exact wpList_plain hgd fun _ hK => wp_buf s x t ho U ht hinfo base v l hs hbuf _ _ _ c news hx rfl (Reads.of_own hy) hlen hbase fun v' w' h1 h2 => hK _ _ (h v' w' h1 h2)
end
end Go.Proofs.YtoepchgoacdodaaDoor
