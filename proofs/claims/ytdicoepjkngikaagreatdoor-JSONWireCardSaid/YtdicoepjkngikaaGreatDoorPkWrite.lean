/-
  Several texts in one: WriteW, PutK, WriteK, WriteL, WriteN, PutL.
-/
import Derived.Test.YtdicoepjkngikaaGreatDoorPkText
import Derived.Lib.AppendStr
import Derived.StillTailTactics
import Derived.Deep.AppendLies
import Derived.Test.YtdicoepjkngikaaGreatDoorPkStateA
/-
  Contracts of wire.Writer.
-/
set_option linter.unusedVariables false
set_option linter.unusedSimpArgs false
namespace Go.Proofs.YtdicoepjkngikaaGreatDoor
open Go.RowKit
theorem strCells_bytes (s : ByteArray) : Lib.strCells s = bytesV s.data.toList := rfl
section
variable {P : Program} (w : World)
theorem wpList_buf_append_str {ops : Array Oper} {rest : List Oper} {o : Oper} {a : Act} {Q : Exit → Act → World → Prop} (hgd : o.guard = none) (s x : Operand) (t u : TypeId)
    (ho : o.op = .call { callee := .builtin .append, args := #[s, x], argTypes := #[t, u] })
    (U : TypeId) (ht : P.underlying t = some (.slice U)) (hu : P.underlying u = some .string) (hinfo : (P.info? U).map (fun i => (i.zero, i.size, i.bytes)) = some (some (.int .u8 0), 1, 1))
    (base : Nat) (v : Value) (l : List UInt8) (hs : a.eval s = v) (hbuf : Buf U w base v l)
    (y : ByteArray) (hx : a.eval x = .string y) (hlen : l.length + y.size ≤ 140737488355328) (hbase : base ≤ w.heap.size)
    (h : ∀ v' w', Buf U w' base v' (l ++ y.data.toList) → Below base w w' → wpList P ops Q rest (a.put o.dst v') w') : wpList P ops Q (o :: rest) a w := by
  obtain ⟨i0, hi, hz, hz1, hz2⟩ := info_parts hinfo
  refine Lib.wpList_append_own_string w hgd s x t u ho base U i0 ht hu hi hz hz1 hz2 v l.length (bytesV l) hs hbuf y hx (by simp only [maxLen]; omega) hlen hbase ?_
  intro v' w' hown hg _
  refine h v' w' ?_ ((Below.refl base w).grown hg hbase (fun k hk => (World.ownsRow.lt hbuf k hk).1))
  unfold Buf
  rw [bytesV_append, List.length_append, ← strCells_bytes, bl_len]
  exact hown
end
theorem Buf.form {U : TypeId} {w : World} {base : Nat} {v : Value} {l : List UInt8} (h : Buf U w base v l) : ∃ a c, v = .slice a l.length c := by
  rcases h.2 with ⟨rfl, h0⟩ | ⟨g, cap, cur, rfl, _⟩
  · exact ⟨none, 0, by rw [h0]⟩
  · exact ⟨_, cap, rfl⟩
/-- The writer in block g has told l. -/
def Wr (w : World) (g : Nat) (l : List UInt8) : Prop := ∃ v, Blk w g 45 #[v] ∧ Buf 5 w (g + 1) v l
theorem Wr.below {w w' : World} {g : Nat} {l : List UInt8} (h : Wr w g l) (hb : Below w.heap.size w w') : Wr w' g l := by
  obtain ⟨v, h1, h2⟩ := h
  exact ⟨v, h1.below hb h1.lt, World.ownsRow.kept (row := none) h2 ⟨hb.os, hb.tape, hb.output, hb.size, fun k hk _ => hb.block k hk⟩ (Classical.em _)⟩
theorem Wr.lt {w : World} {g : Nat} {l : List UInt8} (h : Wr w g l) : g < w.heap.size := by obtain ⟨v, h1, _⟩ := h; exact h1.lt
theorem buf_set {U : TypeId} {w : World} {g : Nat} {v : Value} {l : List UInt8} (h : Buf U w (g + 1) v l) (i : Nat) (u : Value) : Buf U (w.setCell ⟨g, i, none⟩ u) (g + 1) v l :=
  World.ownsRow.kept (row := some g) h ⟨rfl, rfl, rfl, by simp, fun k hk hk2 => Below.heap_setCell w ⟨g, i, none⟩ u k (by intro h0; exact hk2 (by rw [h0]))⟩ (.inr (fun h0 => by have := (World.ownsRow.lt h g h0).1; omega))
set_option maxHeartbeats 1000000 in
set_option maxRecDepth 100000 in
theorem wNumber_any (g : Nat) (l : List UInt8) (n : Int) (w : World) (h : Wr w g l) (hn : 0 ≤ n ∧ n ≤ 4611686018427387904) (hl : l.length ≤ 70368744177664) :
    Calls Tryz.prog 15 #[.pointer (some ⟨g, 0, none⟩), .int .i64 n] w fun e w' => e = .returned (.tuple #[]) ∧ Wr w' g (l ++ putN n.toNat) ∧ Below g w w' := by
  obtain ⟨v, hb, hv⟩ := h
  obtain ⟨pa, ca, rfl⟩ := hv.form
  obtain ⟨k, rfl⟩ := Int.eq_ofNat_of_zero_le hn.1
  have hw : IntKind.u64.wrap (k : Int) = (k : Int) := by rw [IntKind.wrap_u64]; omega
  have c0 : w.cell? ⟨g, 0, none⟩ = some (.slice pa l.length ca) := hb.cell 0
  have hglt := hb.lt
  go_enter Tryz.func15, Tryz.ntmps15
  go_wp2_with fail
  refine (put_any (g + 1) _ l k w (by omega) hl hv (by omega)).mono ?_
  rintro e w1 ⟨v1, rfl, hv1, hb1⟩
  obtain ⟨pb, cb, rfl⟩ := hv1.form
  have b1 := hb.below hb1 (by omega)
  have f1 := b1.frozen 0
  have c1 : w1.cell? ⟨g, 0, none⟩ = some (.slice pa l.length ca) := b1.cell 0
  rw [List.length_append] at hv1
  have hW : Wr (w1.setCell ⟨g, 0, none⟩ (.slice pb (l.length + (putN k).length) cb)) g (l ++ putN k) := ⟨_, b1.set_ 0 _, buf_set hv1 0 _⟩
  have HW := Lib.hid hW
  have hB : Below g w (w1.setCell ⟨g, 0, none⟩ (.slice pb (l.length + (putN k).length) cb)) := (hb1.mono (by omega)).setCell (by show g ≤ g; omega) _
  clear hW hv hv1 hb1 b1
  go_wp2_with fail
  go_end0
  exact ⟨rfl, HW.out, hB⟩
set_option maxHeartbeats 1000000 in
set_option maxRecDepth 100000 in
theorem wSigned_any (g : Nat) (l : List UInt8) (n : Int) (w : World) (h : Wr w g l) (hn : -9223372036854775808 ≤ n ∧ n ≤ 9223372036854775807) (hl : l.length ≤ 70368744177664) :
    Calls Tryz.prog 53 #[.pointer (some ⟨g, 0, none⟩), .int .i64 n] w fun e w' => e = .returned (.tuple #[]) ∧ Wr w' g (l ++ putN (zigI n).toNat) ∧ Below g w w' := by
  obtain ⟨v, hb, hv⟩ := h
  obtain ⟨pa, ca, rfl⟩ := hv.form
  have hz0 := zigI_nonneg n
  have hz1 := zigI_lt n hn.1 hn.2
  have hZ := Lib.hid (fun w => zig_any n w hn.1 hn.2)
  generalize zigI n = z at *
  obtain ⟨k, rfl⟩ := Int.eq_ofNat_of_zero_le hz0
  have c0 : w.cell? ⟨g, 0, none⟩ = some (.slice pa l.length ca) := hb.cell 0
  have hglt := hb.lt
  go_enter Tryz.func53, Tryz.ntmps53
  go_wp2_with fail
  have hvd : Buf 5 w.drew (g + 1) (.slice pa l.length ca) l := World.ownsRow.kept (row := none) hv ⟨rfl, rfl, rfl, Nat.le_refl _, fun k hk _ => rfl⟩ (Classical.em _)
  have bd : Blk w.drew g 45 #[.slice pa l.length ca] := hb
  have hglt' : g < w.drew.heap.size := hglt
  have cd : w.drew.cell? ⟨g, 0, none⟩ = some (.slice pa l.length ca) := c0
  have hBd : Below g w w.drew := (Below.refl g w).drew
  go_region_law (first
    | (go_simp; go_at_call 75; refine (hZ.out _).mono ?_; rintro e w0 ⟨rfl, rfl⟩)
    | (go_simp; go_at_call 51; refine (put_any (g + 1) _ l k _ (by omega) hl hvd hglt').mono ?_; rintro e w1 ⟨v1, rfl, hv1, hb1⟩; obtain ⟨pb, cb, rfl⟩ := hv1.form; have b1 := bd.below hb1 (by omega); have f1 := b1.frozen 0; have c1 : w1.cell? ⟨g, 0, none⟩ = some (.slice pa l.length ca) := b1.cell 0))
  all_goals (
    rw [List.length_append] at hv1
    have hW : Wr (w1.setCell ⟨g, 0, none⟩ (.slice pb (l.length + (putN k).length) cb)) g (l ++ putN k) := ⟨_, b1.set_ 0 _, buf_set hv1 0 _⟩
    have HW := Lib.hid hW
    have hB : Below g w (w1.setCell ⟨g, 0, none⟩ (.slice pb (l.length + (putN k).length) cb)) := (hBd.trans (hb1.mono (by omega))).setCell (by show g ≤ g; omega) _
    clear hW hvd hv1 hb1 b1
    try go_wp2_with fail
    go_end0
    exact ⟨rfl, HW.out, hB⟩)
set_option maxHeartbeats 1000000 in
set_option maxRecDepth 100000 in
theorem wText_any (g : Nat) (l : List UInt8) (s : ByteArray) (w : World) (h : Wr w g l) (hs : okTx s.data.toList) (hl : l.length ≤ 70368744177664) (hT : Tabs w) :
    Calls Tryz.prog 52 #[.pointer (some ⟨g, 0, none⟩), .string s] w fun e w' => e = .returned (.tuple #[]) ∧ Wr w' g (l ++ textB s.data.toList) ∧ Below g w w' := by
  have hx := text_ok s w hT (by rw [← bstr_self s]; exact textE_l.2 hs)
  have hlen : (textB s.data.toList).length ≤ 26 := by
    have := putN_len10 s.data.toList.length (by have := hs.1; omega)
    have := hs.1
    unfold textB; rw [List.length_append]; omega
  have hbl : (bstr (textB s.data.toList)).data.toList = textB s.data.toList := bstr_list _
  have hbz : (bstr (textB s.data.toList)).size = (textB s.data.toList).length := bstr_size _
  generalize textB s.data.toList = t at *
  have HX := Lib.hid hx
  clear hx hs
  have HL := Lib.hid hbl
  go_enter Tryz.func52, Tryz.ntmps52
  go_wp2_with fail
  refine HX.out.mono ?_
  rintro e w1 ⟨rfl, hb1⟩
  have h1 := h.below hb1
  have hglt := h.lt
  have hsz := hb1.size
  obtain ⟨v, hb, hv⟩ := h1
  obtain ⟨pa, ca, rfl⟩ := hv.form
  have c0 : w1.cell? ⟨g, 0, none⟩ = some (.slice pa l.length ca) := hb.cell 0
  have hll : l.length + (bstr t).size ≤ 140737488355328 := by omega
  clear hbl hbz hlen
  go_wp2_with (at_builtin; refine wpList_buf_append_str _ rfl _ _ 43 9 rfl 5 Tryz.underlying43 Tryz.underlying9 u8_info (g + 1) _ l rfl hv (bstr t) rfl hll (by omega) ?_)
  intro v2 w2 hv2 hb2
  rw [HL.out] at hv2
  obtain ⟨pb, cb, rfl⟩ := hv2.form
  have b1 := hb.below hb2 (by omega)
  have f1 := b1.frozen 0
  have c1 : w2.cell? ⟨g, 0, none⟩ = some (.slice pa l.length ca) := b1.cell 0
  rw [List.length_append] at hv2
  have hW : Wr (w2.setCell ⟨g, 0, none⟩ (.slice pb (l.length + t.length) cb)) g (l ++ t) := ⟨_, b1.set_ 0 _, buf_set hv2 0 _⟩
  have HW := Lib.hid hW
  have hB : Below g w (w2.setCell ⟨g, 0, none⟩ (.slice pb (l.length + t.length) cb)) := ((hb1.mono (by omega)).trans (hb2.mono (by omega))).setCell (by show g ≤ g; omega) _
  clear hW hv hv2 hb2 b1
  go_wp2_with fail
  go_end0
  exact ⟨rfl, HW.out, hB⟩
end Go.Proofs.YtdicoepjkngikaaGreatDoor

/-
  prim.Put and appends of a text once more: blocks of other types are kept. Printed by wip/gen_putk.py.
-/
set_option linter.unusedVariables false
set_option linter.unusedSimpArgs false
namespace Go.Proofs.YtdicoepjkngikaaGreatDoor
open Go.RowKit
/-- All struct blocks stand, but those of type U. -/
def Keep (U : TypeId) (w w' : World) : Prop := ∀ b t cs, t ≠ U → Blk w b t cs → Blk w' b t cs
theorem Keep.refl (U : TypeId) (w : World) : Keep U w w := fun _ _ _ _ h => h
theorem Keep.trans {U : TypeId} {a b c : World} (h1 : Keep U a b) (h2 : Keep U b c) : Keep U a c := fun k t cs hne h => h2 k t cs hne (h1 k t cs hne h)
theorem Keep.alloc (U : TypeId) (w : World) (o : Obj) : Keep U w (w.alloc o) := fun _ _ _ _ h => Blk.alloc h o
theorem Keep.own {U : TypeId} {w w' : World} {base : Nat} {v : Value} {l : List UInt8} (hb : Buf U w base v l) (hg : w.grownBy w' v.ownBlock) : Keep U w w' := by
  intro b t cs hne h
  refine (hg.block b h.lt ?_).trans h
  rcases hb.2 with ⟨rfl, _⟩ | ⟨g, cap, cur, rfl, _, hc, _⟩
  · intro h0; cases h0
  · intro h0
    injection h0 with h0
    subst h0
    unfold Blk at h
    rw [hc] at h
    injection h with h
    injection h with _ h2
    exact hne h2.symm
section
variable {P : Program} (w : World)
theorem wpList_buf_append_k {ops : Array Oper} {rest : List Oper} {o : Oper} {a : Act} {Q : Exit → Act → World → Prop} (hgd : o.guard = none) (s x : Operand) (t : TypeId)
    (ho : o.op = .call { callee := .builtin .append, args := #[s, x], argTypes := #[t, t] })
    (U : TypeId) (ht : P.underlying t = some (.slice U)) (hinfo : (P.info? U).map (fun i => (i.zero, i.size, i.bytes)) = some (some (.int .u8 0), 1, 1))
    (base : Nat) (v : Value) (l : List UInt8) (hs : a.eval s = v) (hbuf : Buf U w base v l)
    (ad : Addr) (m c : Nat) (news : List UInt8) (hx : a.eval x = .slice (some ad) m c) (hm : m = news.length)
    (hcells : ∀ j u, news[j]? = some u → w.cell? (ad.add j) = some (.int .u8 (u.toNat : Int))) (hlen : l.length + news.length ≤ 140737488355328) (hbase : base ≤ w.heap.size)
    (h : ∀ v' w', Buf U w' base v' (l ++ news) → Below base w w' → Keep U w w' → wpList P ops Q rest (a.put o.dst v') w') : wpList P ops Q (o :: rest) a w := by
  obtain ⟨i0, hi, hz, hz1, hz2⟩ := info_parts hinfo
  subst hm
  refine wpList_append_own w hgd s x t ho base U i0 (.int .u8 0) 1 1 ht hi hz hz1 hz2 rfl (by decide) v l.length (bytesV l) hs hbuf ad news.length c (bytesV news) hx (by simp [bytesV]) ?_ ?_ ?_ ?_ hbase ?_
  · intro j u hj
    simp only [bytesV, List.getElem?_map, Option.map_eq_some_iff] at hj
    obtain ⟨u', hu, rfl⟩ := hj
    exact hcells j u' hu
  · intro u hu
    simp only [bytesV, List.mem_map] at hu
    obtain ⟨u', _, rfl⟩ := hu
    rfl
  · simp only [maxLen]; omega
  · omega
  · intro v' w' hown hg hat
    refine h v' w' ?_ ?_ (Keep.own hbuf hg)
    · unfold Buf
      rw [bytesV_append, List.length_append]
      exact hown
    · refine (Below.refl base w).grown hg hbase (fun k hk => ?_)
      exact (World.ownsRow.lt hbuf k hk).1
theorem wpList_buf_append_str_k {ops : Array Oper} {rest : List Oper} {o : Oper} {a : Act} {Q : Exit → Act → World → Prop} (hgd : o.guard = none) (s x : Operand) (t u : TypeId)
    (ho : o.op = .call { callee := .builtin .append, args := #[s, x], argTypes := #[t, u] })
    (U : TypeId) (ht : P.underlying t = some (.slice U)) (hu : P.underlying u = some .string) (hinfo : (P.info? U).map (fun i => (i.zero, i.size, i.bytes)) = some (some (.int .u8 0), 1, 1))
    (base : Nat) (v : Value) (l : List UInt8) (hs : a.eval s = v) (hbuf : Buf U w base v l)
    (y : ByteArray) (hx : a.eval x = .string y) (hlen : l.length + y.size ≤ 140737488355328) (hbase : base ≤ w.heap.size)
    (h : ∀ v' w', Buf U w' base v' (l ++ y.data.toList) → Below base w w' → Keep U w w' → wpList P ops Q rest (a.put o.dst v') w') : wpList P ops Q (o :: rest) a w := by
  obtain ⟨i0, hi, hz, hz1, hz2⟩ := info_parts hinfo
  refine Lib.wpList_append_own_string w hgd s x t u ho base U i0 ht hu hi hz hz1 hz2 v l.length (bytesV l) hs hbuf y hx (by simp only [maxLen]; omega) hlen hbase ?_
  intro v' w' hown hg _
  refine h v' w' ?_ ((Below.refl base w).grown hg hbase (fun k hk => (World.ownsRow.lt hbuf k hk).1)) (Keep.own hbuf hg)
  unfold Buf
  rw [bytesV_append, List.length_append, ← strCells_bytes, bl_len]
  exact hown
end
set_option maxHeartbeats 1000000 in
set_option maxRecDepth 100000 in
theorem put_keep (base : Nat) (v : Value) (l : List UInt8) (n : Nat) (w : World) (hn : n < 18446744073709551616) (hl : l.length ≤ 70368744177664) (hbuf : Buf 5 w base v l) (hbase : base ≤ w.heap.size) :
    Calls Tryz.prog 51 #[v, .int .u64 n] w fun e w' => ∃ v', e = .returned v' ∧ Buf 5 w' base v' (l ++ putN n) ∧ Below base w w' ∧ Keep 5 w w' := by
  have hn' := putN_len10 n hn
  go_enter Tryz.func51, Tryz.ntmps51
  go_wp2
  go_loopw [0,1] (fun b i wr => ∃ (v' : Value) (l' : List UInt8) (m : Nat), b = v' ∧ i = .int .u64 m ∧ m < 18446744073709551616 ∧ Buf 5 wr base v' l' ∧ Hid (l' ++ putN m = l ++ putN n) ∧ Below base w wr ∧ Keep 5 w wr ∧ l'.length ≤ l.length + 10) (fun _ i _ => (intOf i).toNat)
  case atStart => exact ⟨v, l, n, rfl, rfl, hn, hbuf, rfl, Below.refl _ _, Keep.refl _ _, by omega⟩
  case round =>
    obtain ⟨v', l', m, rfl, rfl, hm, hb, H, hbel, hkp, hlen⟩ := hrel
    have H1 := H.out
    by_cases h128 : m < 128
    · have hv := Lib.hid (put_last_val m h128)
      rw [putN_lt m h128] at H1
      have HH := Lib.hid H1
      clear H1 H
      go_wp2_with (at_builtin; refine wpList_buf_append_k _ rfl _ _ 43 rfl 5 Tryz.underlying43 u8_info base _ l' rfl (hb.alloc _) ⟨wr.heap.size, 0, none⟩ 1 1 [UInt8.ofNat m] rfl rfl (cells_new _ _ _ _ (congrArg (fun x => [Value.int .u8 x]) hv.out)) (by simp; omega) (by simp; have := hbel.size; omega) ?_)
      intro v2 w2 hb2 hbel2 hk2
      go_wp2
      go_ret
      exact ⟨v2, rfl, HH.out ▸ hb2, (hbel.alloc (by have := hbel.size; omega) _).trans hbel2, (hkp.trans ((Keep.alloc _ _ _).trans hk2))⟩
    · have hv := Lib.hid (put_step_val m)
      rw [putN_ge m h128] at H1
      have HH := Lib.hid H1
      clear H1 H
      go_wp2_with (at_builtin; refine wpList_buf_append_k _ rfl _ _ 43 rfl 5 Tryz.underlying43 u8_info base _ l' rfl (hb.alloc _) ⟨wr.heap.size, 0, none⟩ 1 1 [hiB m] rfl rfl (cells_new _ _ _ _ (congrArg (fun x => [Value.int .u8 x]) hv.out)) (by simp; omega) (by simp; have := hbel.size; omega) ?_)
      intro v2 w2 hb2 hbel2 hk2
      go_wp2
      go_roundw
      case rel => exact ⟨v2, l' ++ [hiB m], m / 128, rfl, by go_num, by omega, hb2, by show _ = _; rw [List.append_assoc]; exact HH.out, (hbel.alloc (by have := hbel.size; omega) _).trans hbel2, (hkp.trans ((Keep.alloc _ _ _).trans hk2)), by have := congrArg List.length HH.out; have h3 := putN_pos (m / 128); simp only [List.length_append, List.length_cons, List.length_nil] at this ⊢; omega⟩
      case measure => simp [intOf]; omega

end Go.Proofs.YtdicoepjkngikaaGreatDoor

/-
  Contracts of wire.Writer, with what is kept. Printed by wip/gen_writek.py.
-/
set_option linter.unusedVariables false
set_option linter.unusedSimpArgs false
namespace Go.Proofs.YtdicoepjkngikaaGreatDoor
open Go.RowKit
theorem Keep.drew (U : TypeId) (w : World) : Keep U w w.drew := fun _ _ _ _ h => h
theorem Keep.below {U : TypeId} {w w' : World} (hb : Below w.heap.size w w') : Keep U w w' := fun _ _ _ _ h => h.below hb h.lt
/-- All struct blocks stand, but those of bytes and the writer's. -/
def WKeep (g : Nat) (w w' : World) : Prop := ∀ b t cs, t ≠ 5 → b ≠ g → Blk w b t cs → Blk w' b t cs
theorem WKeep.of {w w' : World} (g : Nat) (h : Keep 5 w w') : WKeep g w w' := fun b t cs hne _ hb => h b t cs hne hb
theorem WKeep.trans {g : Nat} {a b c : World} (h1 : WKeep g a b) (h2 : WKeep g b c) : WKeep g a c := fun k t cs hne hg h => h2 k t cs hne hg (h1 k t cs hne hg h)
theorem WKeep.set_ {g : Nat} {w w' : World} (h : WKeep g w w') (i : Nat) (u : Value) : WKeep g w (w'.setCell ⟨g, i, none⟩ u) := fun b t cs hne hg hb => (h b t cs hne hg hb).far hg u
set_option maxHeartbeats 1000000 in
set_option maxRecDepth 100000 in
theorem wNumber_keep (g : Nat) (l : List UInt8) (n : Int) (w : World) (h : Wr w g l) (hn : 0 ≤ n ∧ n ≤ 4611686018427387904) (hl : l.length ≤ 70368744177664) :
    Calls Tryz.prog 15 #[.pointer (some ⟨g, 0, none⟩), .int .i64 n] w fun e w' => e = .returned (.tuple #[]) ∧ Wr w' g (l ++ putN n.toNat) ∧ Below g w w' ∧ WKeep g w w' := by
  obtain ⟨v, hb, hv⟩ := h
  obtain ⟨pa, ca, rfl⟩ := hv.form
  obtain ⟨k, rfl⟩ := Int.eq_ofNat_of_zero_le hn.1
  have hw : IntKind.u64.wrap (k : Int) = (k : Int) := by rw [IntKind.wrap_u64]; omega
  have c0 : w.cell? ⟨g, 0, none⟩ = some (.slice pa l.length ca) := hb.cell 0
  have hglt := hb.lt
  go_enter Tryz.func15, Tryz.ntmps15
  go_wp2_with fail
  refine (put_keep (g + 1) _ l k w (by omega) hl hv (by omega)).mono ?_
  rintro e w1 ⟨v1, rfl, hv1, hb1, hk1⟩
  obtain ⟨pb, cb, rfl⟩ := hv1.form
  have b1 := hb.below hb1 (by omega)
  have f1 := b1.frozen 0
  have c1 : w1.cell? ⟨g, 0, none⟩ = some (.slice pa l.length ca) := b1.cell 0
  rw [List.length_append] at hv1
  have hW : Wr (w1.setCell ⟨g, 0, none⟩ (.slice pb (l.length + (putN k).length) cb)) g (l ++ putN k) := ⟨_, b1.set_ 0 _, buf_set hv1 0 _⟩
  have HW := Lib.hid hW
  have HK := Lib.hid ((WKeep.of g hk1).set_ 0 (.slice pb (l.length + (putN k).length) cb))
  have hB : Below g w (w1.setCell ⟨g, 0, none⟩ (.slice pb (l.length + (putN k).length) cb)) := (hb1.mono (by omega)).setCell (by show g ≤ g; omega) _
  clear hW hv hv1 hb1 b1
  go_wp2_with fail
  go_end0
  exact ⟨rfl, HW.out, hB, HK.out⟩
set_option maxHeartbeats 1000000 in
set_option maxRecDepth 100000 in
theorem wSigned_keep (g : Nat) (l : List UInt8) (n : Int) (w : World) (h : Wr w g l) (hn : -9223372036854775808 ≤ n ∧ n ≤ 9223372036854775807) (hl : l.length ≤ 70368744177664) :
    Calls Tryz.prog 53 #[.pointer (some ⟨g, 0, none⟩), .int .i64 n] w fun e w' => e = .returned (.tuple #[]) ∧ Wr w' g (l ++ putN (zigI n).toNat) ∧ Below g w w' ∧ WKeep g w w' := by
  obtain ⟨v, hb, hv⟩ := h
  obtain ⟨pa, ca, rfl⟩ := hv.form
  have hz0 := zigI_nonneg n
  have hz1 := zigI_lt n hn.1 hn.2
  have hZ := Lib.hid (fun w => zig_any n w hn.1 hn.2)
  generalize zigI n = z at *
  obtain ⟨k, rfl⟩ := Int.eq_ofNat_of_zero_le hz0
  have c0 : w.cell? ⟨g, 0, none⟩ = some (.slice pa l.length ca) := hb.cell 0
  have hglt := hb.lt
  go_enter Tryz.func53, Tryz.ntmps53
  go_wp2_with fail
  have hvd : Buf 5 w.drew (g + 1) (.slice pa l.length ca) l := World.ownsRow.kept (row := none) hv ⟨rfl, rfl, rfl, Nat.le_refl _, fun k hk _ => rfl⟩ (Classical.em _)
  have bd : Blk w.drew g 45 #[.slice pa l.length ca] := hb
  have hglt' : g < w.drew.heap.size := hglt
  have cd : w.drew.cell? ⟨g, 0, none⟩ = some (.slice pa l.length ca) := c0
  have hBd : Below g w w.drew := (Below.refl g w).drew
  go_region_law (first
    | (go_simp; go_at_call 75; refine (hZ.out _).mono ?_; rintro e w0 ⟨rfl, rfl⟩)
    | (go_simp; go_at_call 51; refine (put_keep (g + 1) _ l k _ (by omega) hl hvd hglt').mono ?_; rintro e w1 ⟨v1, rfl, hv1, hb1, hk1⟩; obtain ⟨pb, cb, rfl⟩ := hv1.form; have b1 := bd.below hb1 (by omega); have f1 := b1.frozen 0; have c1 : w1.cell? ⟨g, 0, none⟩ = some (.slice pa l.length ca) := b1.cell 0))
  all_goals (
    rw [List.length_append] at hv1
    have hW : Wr (w1.setCell ⟨g, 0, none⟩ (.slice pb (l.length + (putN k).length) cb)) g (l ++ putN k) := ⟨_, b1.set_ 0 _, buf_set hv1 0 _⟩
    have HW := Lib.hid hW
    have HK := Lib.hid ((WKeep.of g (Keep.trans (Keep.drew _ _) hk1)).set_ 0 (.slice pb (l.length + (putN k).length) cb))
    have hB : Below g w (w1.setCell ⟨g, 0, none⟩ (.slice pb (l.length + (putN k).length) cb)) := (hBd.trans (hb1.mono (by omega))).setCell (by show g ≤ g; omega) _
    clear hW hvd hv1 hb1 b1
    try go_wp2_with fail
    go_end0
    exact ⟨rfl, HW.out, hB, HK.out⟩)
set_option maxHeartbeats 1000000 in
set_option maxRecDepth 100000 in
theorem wText_keep (g : Nat) (l : List UInt8) (s : ByteArray) (w : World) (h : Wr w g l) (hs : okTx s.data.toList) (hl : l.length ≤ 70368744177664) (hT : Tabs w) :
    Calls Tryz.prog 52 #[.pointer (some ⟨g, 0, none⟩), .string s] w fun e w' => e = .returned (.tuple #[]) ∧ Wr w' g (l ++ textB s.data.toList) ∧ Below g w w' ∧ WKeep g w w' := by
  have hx := text_ok s w hT (by rw [← bstr_self s]; exact textE_l.2 hs)
  have hlen : (textB s.data.toList).length ≤ 26 := by
    have := putN_len10 s.data.toList.length (by have := hs.1; omega)
    have := hs.1
    unfold textB; rw [List.length_append]; omega
  have hbl : (bstr (textB s.data.toList)).data.toList = textB s.data.toList := bstr_list _
  have hbz : (bstr (textB s.data.toList)).size = (textB s.data.toList).length := bstr_size _
  generalize textB s.data.toList = t at *
  have HX := Lib.hid hx
  clear hx hs
  have HL := Lib.hid hbl
  go_enter Tryz.func52, Tryz.ntmps52
  go_wp2_with fail
  refine HX.out.mono ?_
  rintro e w1 ⟨rfl, hb1⟩
  have h1 := h.below hb1
  have hglt := h.lt
  have hsz := hb1.size
  have HB1 := Lib.hid hb1
  obtain ⟨v, hb, hv⟩ := h1
  obtain ⟨pa, ca, rfl⟩ := hv.form
  have c0 : w1.cell? ⟨g, 0, none⟩ = some (.slice pa l.length ca) := hb.cell 0
  have hll : l.length + (bstr t).size ≤ 140737488355328 := by omega
  clear hbl hbz hlen
  go_wp2_with (at_builtin; refine wpList_buf_append_str_k _ rfl _ _ 43 9 rfl 5 Tryz.underlying43 Tryz.underlying9 u8_info (g + 1) _ l rfl hv (bstr t) rfl hll (by omega) ?_)
  intro v2 w2 hv2 hb2 hk2
  rw [HL.out] at hv2
  obtain ⟨pb, cb, rfl⟩ := hv2.form
  have b1 := hb.below hb2 (by omega)
  have f1 := b1.frozen 0
  have c1 : w2.cell? ⟨g, 0, none⟩ = some (.slice pa l.length ca) := b1.cell 0
  rw [List.length_append] at hv2
  have hW : Wr (w2.setCell ⟨g, 0, none⟩ (.slice pb (l.length + t.length) cb)) g (l ++ t) := ⟨_, b1.set_ 0 _, buf_set hv2 0 _⟩
  have HW := Lib.hid hW
  have HK := Lib.hid ((WKeep.of g (Keep.trans (Keep.below HB1.out) hk2)).set_ 0 (.slice pb (l.length + t.length) cb))
  have hB : Below g w (w2.setCell ⟨g, 0, none⟩ (.slice pb (l.length + t.length) cb)) := ((hb1.mono (by omega)).trans (hb2.mono (by omega))).setCell (by show g ≤ g; omega) _
  clear hW hv hv2 hb2 b1
  go_wp2_with fail
  go_end0
  exact ⟨rfl, HW.out, hB, HK.out⟩
end Go.Proofs.YtdicoepjkngikaaGreatDoor

/-
  Contracts of wire.Writer: a lease.
-/
set_option linter.unusedVariables false
set_option linter.unusedSimpArgs false
namespace Go.Proofs.YtdicoepjkngikaaGreatDoor
open Go.RowKit
theorem textB_len {t : List UInt8} (h : okTx t) : (textB t).length ≤ 26 := by
  have := putN_len10 t.length (by have := h.1; omega)
  have := h.1
  unfold textB; rw [List.length_append]; omega
set_option maxHeartbeats 2000000 in
set_option maxRecDepth 100000 in
theorem wLease_any (g : Nat) (l : List UInt8) (j : LeaseD) (w : World) (h : Wr w g l) (hj : okLs j) (hl : l.length ≤ 70368744177000) (hT : ∀ w', Below g w w' → Tabs w') :
    Calls Tryz.prog 23 #[.pointer (some ⟨g, 0, none⟩), .agg #[.string j.job, .string j.node, .int .i64 j.till]] w fun e w' => e = .returned (.tuple #[]) ∧ Wr w' g (l ++ encL j) ∧ Below g w w' ∧ WKeep g w w' := by
  have hglt := h.lt
  have HT := Lib.hid hT
  have HJ := Lib.hid hj
  have len1 := textB_len hj.1
  have len2 := textB_len hj.2.1
  have bX := Blk.new w 59 #[Value.string j.job, Value.string j.node, Value.int .i64 j.till]
  have h0 : Wr (w.alloc (.cells #[Value.string j.job, Value.string j.node, Value.int .i64 j.till] 59)) g l := h.below ((Below.refl _ _).alloc (Nat.le_refl _) _)
  have B0 : Below g w (w.alloc (.cells #[Value.string j.job, Value.string j.node, Value.int .i64 j.till] 59)) := (Below.refl _ _).alloc (by omega) _
  have K0 : WKeep g w (w.alloc (.cells #[Value.string j.job, Value.string j.node, Value.int .i64 j.till] 59)) := WKeep.of g (Keep.alloc _ _ _)
  clear hT hj h
  go_enter Tryz.func23, Tryz.ntmps23
  have c0 : (w.alloc (.cells #[Value.string j.job, Value.string j.node, Value.int .i64 j.till] 59)).cell? ⟨w.heap.size, 0, none⟩ = some (.string j.job) := bX.cell 0
  go_wp2_with fail
  generalize w.alloc (.cells #[Value.string j.job, Value.string j.node, Value.int .i64 j.till] 59) = W0 at *
  refine (wText_keep g l j.job W0 h0 HJ.out.1 (by omega) (HT.out _ B0)).mono ?_
  rintro e w1 ⟨rfl, h1, hb1, k1⟩
  have b1 := k1 _ _ _ (by decide) (by omega) bX
  have B1 := B0.trans hb1
  have K1 := K0.trans k1
  have c1 : w1.cell? ⟨w.heap.size, 1, none⟩ = some (.string j.node) := b1.cell 1
  clear c0 bX h0 B0 K0 hb1 k1
  go_wp2_with fail
  refine (wText_keep g _ j.node w1 h1 HJ.out.2.1 (by rw [List.length_append]; omega) (HT.out _ B1)).mono ?_
  rintro e w2 ⟨rfl, h2, hb2, k2⟩
  have b2 := k2 _ _ _ (by decide) (by omega) b1
  have B2 := B1.trans hb2
  have K2 := K1.trans k2
  have c2 : w2.cell? ⟨w.heap.size, 2, none⟩ = some (.int .i64 j.till) := b2.cell 2
  clear c1 b1 h1 B1 K1 hb2 k2
  go_wp2_with fail
  refine (wNumber_keep g _ j.till w2 h2 HJ.out.2.2 (by rw [List.length_append, List.length_append]; omega)).mono ?_
  rintro e w3 ⟨rfl, h3, hb3, k3⟩
  have B3 := B2.trans hb3
  have K3 := K2.trans k3
  have HW := Lib.hid (show Wr w3 g (l ++ encL j) from by unfold encL; rw [← List.append_assoc, ← List.append_assoc]; exact h3)
  clear h3 h2
  go_wp2_with fail
  go_end0
  exact ⟨rfl, HW.out, B3, K3⟩
end Go.Proofs.YtdicoepjkngikaaGreatDoor

/-
  Contracts of wire.Writer: a node, a job. Printed by wip/gen_writen.py.
-/
set_option linter.unusedVariables false
set_option linter.unusedSimpArgs false
namespace Go.Proofs.YtdicoepjkngikaaGreatDoor
open Go.RowKit
theorem zig_bounds {n : Int} (h : zigI n ≤ 4611686018427387904) : -9223372036854775808 ≤ n ∧ n ≤ 9223372036854775807 := by
  unfold zigI at h
  split at h <;> omega
set_option maxHeartbeats 4000000 in
set_option maxRecDepth 100000 in
theorem wNode_any (g : Nat) (l : List UInt8) (j : NodeD) (v : Int) (w : World) (h : Wr w g l) (hj : okNd v j) (hl : l.length ≤ 70368744177000) (hT : ∀ w', Below g w w' → Tabs w') :
    Calls Tryz.prog 21 #[.pointer (some ⟨g, 0, none⟩), .agg #[Value.string j.name, Value.int .i64 j.room, Value.string j.zone], .int .i64 v] w fun e w' => e = .returned (.tuple #[]) ∧ Wr w' g (l ++ encN v j) ∧ Below g w w' ∧ WKeep g w w' := by
  have hglt := h.lt
  have HT := Lib.hid hT
  have bX := Blk.new w 54 #[Value.string j.name, Value.int .i64 j.room, Value.string j.zone]
  have h0 : Wr (w.alloc (.cells #[Value.string j.name, Value.int .i64 j.room, Value.string j.zone] 54)) g l := h.below ((Below.refl _ _).alloc (Nat.le_refl _) _)
  have B0 : Below g w (w.alloc (.cells #[Value.string j.name, Value.int .i64 j.room, Value.string j.zone] 54)) := (Below.refl _ _).alloc (by omega) _
  have K0 : WKeep g w (w.alloc (.cells #[Value.string j.name, Value.int .i64 j.room, Value.string j.zone] 54)) := WKeep.of g (Keep.alloc _ _ _)
  clear hT h
  by_cases hv1 : 1 < v
  · have hz : okTx j.zone.data.toList := by have h8 := hj.2.2; rw [if_pos (decide_eq_true hv1)] at h8; exact h8
    have o0 : okTx j.name.data.toList := hj.1
    have len0 := textB_len o0
    have H0 := Lib.hid o0
    clear o0
    have o1 : 0 ≤ j.room ∧ j.room ≤ 4611686018427387904 := hj.2.1
    have len1 : (putN j.room.toNat).length ≤ 10 := putN_len10 _ (by have := hj.2.1; omega)
    have H1 := Lib.hid o1
    clear o1
    have o2 : okTx j.zone.data.toList := hz
    have len2 := textB_len o2
    have H2 := Lib.hid o2
    clear o2
    clear hj
    go_enter Tryz.func21, Tryz.ntmps21
    have c0 : (w.alloc (.cells #[Value.string j.name, Value.int .i64 j.room, Value.string j.zone] 54)).cell? ⟨w.heap.size, 0, none⟩ = some (.string j.name) := bX.cell 0
    go_wp2_with fail
    generalize w.alloc (.cells #[Value.string j.name, Value.int .i64 j.room, Value.string j.zone] 54) = W0 at *
    refine (wText_keep g _ j.name W0 h0 H0.out (by (repeat rw [List.length_append]); omega) (HT.out _ B0)).mono ?_
    rintro e w1 ⟨rfl, h1, hb1, k1⟩
    have b1 := k1 _ _ _ (by decide) (by omega) bX
    have B1 := B0.trans hb1
    have K1 := K0.trans k1
    have c1 : w1.cell? ⟨w.heap.size, 1, none⟩ = some (.int .i64 j.room) := b1.cell 1
    clear c0 bX h0 B0 K0 hb1 k1
    go_wp2_with fail
    refine (wNumber_keep g _ j.room w1 h1 H1.out (by (repeat rw [List.length_append]); omega)).mono ?_
    rintro e w2 ⟨rfl, h2, hb2, k2⟩
    have b2 := k2 _ _ _ (by decide) (by omega) b1
    have B2 := B1.trans hb2
    have K2 := K1.trans k2
    have c2 : w2.cell? ⟨w.heap.size, 2, none⟩ = some (.string j.zone) := b2.cell 2
    clear c1 b1 h1 B1 K1 hb2 k2
    go_wp2_with fail
    refine (wText_keep g _ j.zone w2 h2 H2.out (by (repeat rw [List.length_append]); omega) (HT.out _ B2)).mono ?_
    rintro e w3 ⟨rfl, h3, hb3, k3⟩
    have b3 := k3 _ _ _ (by decide) (by omega) b2
    have B3 := B2.trans hb3
    have K3 := K2.trans k3
    have HW := Lib.hid (show Wr w3 g (l ++ encN v j) from by have h9 := h3; unfold encN; simp only [List.append_assoc] at h9; simpa [hv1] using h9)
    clear h3 h2
    go_wp2_with fail
    go_end0
    exact ⟨rfl, HW.out, B3, K3⟩
  · skip
    have o0 : okTx j.name.data.toList := hj.1
    have len0 := textB_len o0
    have H0 := Lib.hid o0
    clear o0
    have o1 : 0 ≤ j.room ∧ j.room ≤ 4611686018427387904 := hj.2.1
    have len1 : (putN j.room.toNat).length ≤ 10 := putN_len10 _ (by have := hj.2.1; omega)
    have H1 := Lib.hid o1
    clear o1
    clear hj
    go_enter Tryz.func21, Tryz.ntmps21
    have c0 : (w.alloc (.cells #[Value.string j.name, Value.int .i64 j.room, Value.string j.zone] 54)).cell? ⟨w.heap.size, 0, none⟩ = some (.string j.name) := bX.cell 0
    go_wp2_with fail
    generalize w.alloc (.cells #[Value.string j.name, Value.int .i64 j.room, Value.string j.zone] 54) = W0 at *
    refine (wText_keep g _ j.name W0 h0 H0.out (by (repeat rw [List.length_append]); omega) (HT.out _ B0)).mono ?_
    rintro e w1 ⟨rfl, h1, hb1, k1⟩
    have b1 := k1 _ _ _ (by decide) (by omega) bX
    have B1 := B0.trans hb1
    have K1 := K0.trans k1
    have c1 : w1.cell? ⟨w.heap.size, 1, none⟩ = some (.int .i64 j.room) := b1.cell 1
    clear c0 bX h0 B0 K0 hb1 k1
    go_wp2_with fail
    refine (wNumber_keep g _ j.room w1 h1 H1.out (by (repeat rw [List.length_append]); omega)).mono ?_
    rintro e w2 ⟨rfl, h2, hb2, k2⟩
    have b2 := k2 _ _ _ (by decide) (by omega) b1
    have B2 := B1.trans hb2
    have K2 := K1.trans k2
    have HW := Lib.hid (show Wr w2 g (l ++ encN v j) from by have h9 := h2; unfold encN; simp only [List.append_assoc] at h9; simpa [if_neg (show ¬ (1 < v) by omega)] using h9)
    clear h2 h1
    go_wp2_with fail
    go_end0
    exact ⟨rfl, HW.out, B2, K2⟩
set_option maxHeartbeats 4000000 in
set_option maxRecDepth 100000 in
theorem wJob_any (g : Nat) (l : List UInt8) (j : JobD) (v : Int) (w : World) (h : Wr w g l) (hj : okJb v j) (hl : l.length ≤ 70368744177000) (hT : ∀ w', Below g w w' → Tabs w') :
    Calls Tryz.prog 18 #[.pointer (some ⟨g, 0, none⟩), .agg #[Value.string j.name, Value.int .i64 j.prio, Value.int .i64 j.need, Value.int .i64 j.tries, Value.string j.tag], .int .i64 v] w fun e w' => e = .returned (.tuple #[]) ∧ Wr w' g (l ++ encJ v j) ∧ Below g w w' ∧ WKeep g w w' := by
  have hglt := h.lt
  have HT := Lib.hid hT
  have bX := Blk.new w 49 #[Value.string j.name, Value.int .i64 j.prio, Value.int .i64 j.need, Value.int .i64 j.tries, Value.string j.tag]
  have h0 : Wr (w.alloc (.cells #[Value.string j.name, Value.int .i64 j.prio, Value.int .i64 j.need, Value.int .i64 j.tries, Value.string j.tag] 49)) g l := h.below ((Below.refl _ _).alloc (Nat.le_refl _) _)
  have B0 : Below g w (w.alloc (.cells #[Value.string j.name, Value.int .i64 j.prio, Value.int .i64 j.need, Value.int .i64 j.tries, Value.string j.tag] 49)) := (Below.refl _ _).alloc (by omega) _
  have K0 : WKeep g w (w.alloc (.cells #[Value.string j.name, Value.int .i64 j.prio, Value.int .i64 j.need, Value.int .i64 j.tries, Value.string j.tag] 49)) := WKeep.of g (Keep.alloc _ _ _)
  clear hT h
  by_cases hv1 : 1 < v
  · have h4 : okNb j.tries := by have h8 := hj.2.2.2.1; rw [if_pos (decide_eq_true hv1)] at h8; exact h8
    by_cases hv2 : 2 < v
    · have h5 : okTx j.tag.data.toList := by have h8 := hj.2.2.2.2; rw [if_pos (decide_eq_true hv2)] at h8; exact h8
      have o0 : okTx j.name.data.toList := hj.1
      have len0 := textB_len o0
      have H0 := Lib.hid o0
      clear o0
      have o1 : -9223372036854775808 ≤ j.prio ∧ j.prio ≤ 9223372036854775807 := zig_bounds hj.2.1
      have len1 : (putN (zigI j.prio).toNat).length ≤ 10 := putN_len10 _ (by have := hj.2.1; omega)
      have H1 := Lib.hid o1
      clear o1
      have o2 : 0 ≤ j.need ∧ j.need ≤ 4611686018427387904 := hj.2.2.1
      have len2 : (putN j.need.toNat).length ≤ 10 := putN_len10 _ (by have := hj.2.2.1; omega)
      have H2 := Lib.hid o2
      clear o2
      have o3 : 0 ≤ j.tries ∧ j.tries ≤ 4611686018427387904 := h4
      have len3 : (putN j.tries.toNat).length ≤ 10 := putN_len10 _ (by have := h4; omega)
      have H3 := Lib.hid o3
      clear o3
      have o4 : okTx j.tag.data.toList := h5
      have len4 := textB_len o4
      have H4 := Lib.hid o4
      clear o4
      clear hj
      go_enter Tryz.func18, Tryz.ntmps18
      have c0 : (w.alloc (.cells #[Value.string j.name, Value.int .i64 j.prio, Value.int .i64 j.need, Value.int .i64 j.tries, Value.string j.tag] 49)).cell? ⟨w.heap.size, 0, none⟩ = some (.string j.name) := bX.cell 0
      go_wp2_with fail
      generalize w.alloc (.cells #[Value.string j.name, Value.int .i64 j.prio, Value.int .i64 j.need, Value.int .i64 j.tries, Value.string j.tag] 49) = W0 at *
      refine (wText_keep g _ j.name W0 h0 H0.out (by (repeat rw [List.length_append]); omega) (HT.out _ B0)).mono ?_
      rintro e w1 ⟨rfl, h1, hb1, k1⟩
      have b1 := k1 _ _ _ (by decide) (by omega) bX
      have B1 := B0.trans hb1
      have K1 := K0.trans k1
      have c1 : w1.cell? ⟨w.heap.size, 1, none⟩ = some (.int .i64 j.prio) := b1.cell 1
      clear c0 bX h0 B0 K0 hb1 k1
      go_wp2_with fail
      refine (wSigned_keep g _ j.prio w1 h1 H1.out (by (repeat rw [List.length_append]); omega)).mono ?_
      rintro e w2 ⟨rfl, h2, hb2, k2⟩
      have b2 := k2 _ _ _ (by decide) (by omega) b1
      have B2 := B1.trans hb2
      have K2 := K1.trans k2
      have c2 : w2.cell? ⟨w.heap.size, 2, none⟩ = some (.int .i64 j.need) := b2.cell 2
      clear c1 b1 h1 B1 K1 hb2 k2
      go_wp2_with fail
      refine (wNumber_keep g _ j.need w2 h2 H2.out (by (repeat rw [List.length_append]); omega)).mono ?_
      rintro e w3 ⟨rfl, h3, hb3, k3⟩
      have b3 := k3 _ _ _ (by decide) (by omega) b2
      have B3 := B2.trans hb3
      have K3 := K2.trans k3
      have c3 : w3.cell? ⟨w.heap.size, 3, none⟩ = some (.int .i64 j.tries) := b3.cell 3
      clear c2 b2 h2 B2 K2 hb3 k3
      go_wp2_with fail
      refine (wNumber_keep g _ j.tries w3 h3 H3.out (by (repeat rw [List.length_append]); omega)).mono ?_
      rintro e w4 ⟨rfl, h4, hb4, k4⟩
      have b4 := k4 _ _ _ (by decide) (by omega) b3
      have B4 := B3.trans hb4
      have K4 := K3.trans k4
      have c4 : w4.cell? ⟨w.heap.size, 4, none⟩ = some (.string j.tag) := b4.cell 4
      clear c3 b3 h3 B3 K3 hb4 k4
      go_wp2_with fail
      refine (wText_keep g _ j.tag w4 h4 H4.out (by (repeat rw [List.length_append]); omega) (HT.out _ B4)).mono ?_
      rintro e w5 ⟨rfl, h5, hb5, k5⟩
      have b5 := k5 _ _ _ (by decide) (by omega) b4
      have B5 := B4.trans hb5
      have K5 := K4.trans k5
      have HW := Lib.hid (show Wr w5 g (l ++ encJ v j) from by have h9 := h5; unfold encJ; simp only [List.append_assoc] at h9; simpa [hv1, hv2] using h9)
      clear h5 h4
      go_wp2_with fail
      go_end0
      exact ⟨rfl, HW.out, B5, K5⟩
    · skip
      have o0 : okTx j.name.data.toList := hj.1
      have len0 := textB_len o0
      have H0 := Lib.hid o0
      clear o0
      have o1 : -9223372036854775808 ≤ j.prio ∧ j.prio ≤ 9223372036854775807 := zig_bounds hj.2.1
      have len1 : (putN (zigI j.prio).toNat).length ≤ 10 := putN_len10 _ (by have := hj.2.1; omega)
      have H1 := Lib.hid o1
      clear o1
      have o2 : 0 ≤ j.need ∧ j.need ≤ 4611686018427387904 := hj.2.2.1
      have len2 : (putN j.need.toNat).length ≤ 10 := putN_len10 _ (by have := hj.2.2.1; omega)
      have H2 := Lib.hid o2
      clear o2
      have o3 : 0 ≤ j.tries ∧ j.tries ≤ 4611686018427387904 := h4
      have len3 : (putN j.tries.toNat).length ≤ 10 := putN_len10 _ (by have := h4; omega)
      have H3 := Lib.hid o3
      clear o3
      clear hj
      go_enter Tryz.func18, Tryz.ntmps18
      have c0 : (w.alloc (.cells #[Value.string j.name, Value.int .i64 j.prio, Value.int .i64 j.need, Value.int .i64 j.tries, Value.string j.tag] 49)).cell? ⟨w.heap.size, 0, none⟩ = some (.string j.name) := bX.cell 0
      go_wp2_with fail
      generalize w.alloc (.cells #[Value.string j.name, Value.int .i64 j.prio, Value.int .i64 j.need, Value.int .i64 j.tries, Value.string j.tag] 49) = W0 at *
      refine (wText_keep g _ j.name W0 h0 H0.out (by (repeat rw [List.length_append]); omega) (HT.out _ B0)).mono ?_
      rintro e w1 ⟨rfl, h1, hb1, k1⟩
      have b1 := k1 _ _ _ (by decide) (by omega) bX
      have B1 := B0.trans hb1
      have K1 := K0.trans k1
      have c1 : w1.cell? ⟨w.heap.size, 1, none⟩ = some (.int .i64 j.prio) := b1.cell 1
      clear c0 bX h0 B0 K0 hb1 k1
      go_wp2_with fail
      refine (wSigned_keep g _ j.prio w1 h1 H1.out (by (repeat rw [List.length_append]); omega)).mono ?_
      rintro e w2 ⟨rfl, h2, hb2, k2⟩
      have b2 := k2 _ _ _ (by decide) (by omega) b1
      have B2 := B1.trans hb2
      have K2 := K1.trans k2
      have c2 : w2.cell? ⟨w.heap.size, 2, none⟩ = some (.int .i64 j.need) := b2.cell 2
      clear c1 b1 h1 B1 K1 hb2 k2
      go_wp2_with fail
      refine (wNumber_keep g _ j.need w2 h2 H2.out (by (repeat rw [List.length_append]); omega)).mono ?_
      rintro e w3 ⟨rfl, h3, hb3, k3⟩
      have b3 := k3 _ _ _ (by decide) (by omega) b2
      have B3 := B2.trans hb3
      have K3 := K2.trans k3
      have c3 : w3.cell? ⟨w.heap.size, 3, none⟩ = some (.int .i64 j.tries) := b3.cell 3
      clear c2 b2 h2 B2 K2 hb3 k3
      go_wp2_with fail
      refine (wNumber_keep g _ j.tries w3 h3 H3.out (by (repeat rw [List.length_append]); omega)).mono ?_
      rintro e w4 ⟨rfl, h4, hb4, k4⟩
      have b4 := k4 _ _ _ (by decide) (by omega) b3
      have B4 := B3.trans hb4
      have K4 := K3.trans k4
      have HW := Lib.hid (show Wr w4 g (l ++ encJ v j) from by have h9 := h4; unfold encJ; simp only [List.append_assoc] at h9; simpa [hv1, if_neg (show ¬ (2 < v) by omega)] using h9)
      clear h4 h3
      go_wp2_with fail
      go_end0
      exact ⟨rfl, HW.out, B4, K4⟩
  · have hv2 : ¬ 2 < v := by omega
    have o0 : okTx j.name.data.toList := hj.1
    have len0 := textB_len o0
    have H0 := Lib.hid o0
    clear o0
    have o1 : -9223372036854775808 ≤ j.prio ∧ j.prio ≤ 9223372036854775807 := zig_bounds hj.2.1
    have len1 : (putN (zigI j.prio).toNat).length ≤ 10 := putN_len10 _ (by have := hj.2.1; omega)
    have H1 := Lib.hid o1
    clear o1
    have o2 : 0 ≤ j.need ∧ j.need ≤ 4611686018427387904 := hj.2.2.1
    have len2 : (putN j.need.toNat).length ≤ 10 := putN_len10 _ (by have := hj.2.2.1; omega)
    have H2 := Lib.hid o2
    clear o2
    clear hj
    go_enter Tryz.func18, Tryz.ntmps18
    have c0 : (w.alloc (.cells #[Value.string j.name, Value.int .i64 j.prio, Value.int .i64 j.need, Value.int .i64 j.tries, Value.string j.tag] 49)).cell? ⟨w.heap.size, 0, none⟩ = some (.string j.name) := bX.cell 0
    go_wp2_with fail
    generalize w.alloc (.cells #[Value.string j.name, Value.int .i64 j.prio, Value.int .i64 j.need, Value.int .i64 j.tries, Value.string j.tag] 49) = W0 at *
    refine (wText_keep g _ j.name W0 h0 H0.out (by (repeat rw [List.length_append]); omega) (HT.out _ B0)).mono ?_
    rintro e w1 ⟨rfl, h1, hb1, k1⟩
    have b1 := k1 _ _ _ (by decide) (by omega) bX
    have B1 := B0.trans hb1
    have K1 := K0.trans k1
    have c1 : w1.cell? ⟨w.heap.size, 1, none⟩ = some (.int .i64 j.prio) := b1.cell 1
    clear c0 bX h0 B0 K0 hb1 k1
    go_wp2_with fail
    refine (wSigned_keep g _ j.prio w1 h1 H1.out (by (repeat rw [List.length_append]); omega)).mono ?_
    rintro e w2 ⟨rfl, h2, hb2, k2⟩
    have b2 := k2 _ _ _ (by decide) (by omega) b1
    have B2 := B1.trans hb2
    have K2 := K1.trans k2
    have c2 : w2.cell? ⟨w.heap.size, 2, none⟩ = some (.int .i64 j.need) := b2.cell 2
    clear c1 b1 h1 B1 K1 hb2 k2
    go_wp2_with fail
    refine (wNumber_keep g _ j.need w2 h2 H2.out (by (repeat rw [List.length_append]); omega)).mono ?_
    rintro e w3 ⟨rfl, h3, hb3, k3⟩
    have b3 := k3 _ _ _ (by decide) (by omega) b2
    have B3 := B2.trans hb3
    have K3 := K2.trans k3
    have HW := Lib.hid (show Wr w3 g (l ++ encJ v j) from by have h9 := h3; unfold encJ; simp only [List.append_assoc] at h9; simpa [if_neg (show ¬ (1 < v) by omega), if_neg (show ¬ (2 < v) by omega)] using h9)
    clear h3 h2
    go_wp2_with fail
    go_end0
    exact ⟨rfl, HW.out, B3, K3⟩
end Go.Proofs.YtdicoepjkngikaaGreatDoor

/-
  Contracts of wire.Put: leases.
-/
set_option linter.unusedVariables false
set_option linter.unusedSimpArgs false
namespace Go.Proofs.YtdicoepjkngikaaGreatDoor
open Go.RowKit
theorem dropAtW {α : Type} (l : List α) (k : Nat) (x : α) (h : l[k]? = some x) : l.drop k = x :: l.drop (k + 1) := by
  obtain ⟨hk, rfl⟩ := List.getElem?_eq_some_iff.1 h
  exact List.drop_eq_getElem_cons hk
theorem encL_len {j : LeaseD} (h : okLs j) : (encL j).length ≤ 62 := by
  have h1 := textB_len h.1
  have h2 := textB_len h.2.1
  have h3 : (putN j.till.toNat).length ≤ 10 := putN_len10 _ (by have := h.2.2.2; omega)
  unfold encL
  rw [List.length_append, List.length_append]; omega
theorem one_rowLx (x : LeaseD) : (#[Value.string x.job, Value.string x.node, Value.int .i64 x.till] : Array Value).all (·.oneCell') = true := by simp [Value.oneCell']
set_option maxHeartbeats 4000000 in
set_option maxRecDepth 100000 in
theorem putL_any (g : Nat) (l : List UInt8) (p : Option Addr) (c : Nat) (rows : List LeaseD) (w : World) (h : Wr w g l) (hel : Elts w g 3 p (rows.map rowL)) (hok : ∀ x ∈ rows, okLs x) (hn : rows.length ≤ 40) (hl : l.length ≤ 70368744170000) (hT : ∀ w', Below g w w' → Tabs w') :
    Calls Tryz.prog 22 #[.pointer (some ⟨g, 0, none⟩), .slice p rows.length c, .func (.func 23) #[.pointer (some ⟨g, 0, none⟩)] #[]] w fun e w' => e = .returned (.tuple #[]) ∧ Wr w' g (l ++ rowsB encL rows) ∧ Below g w w' ∧ WKeep g w w' := by
  have HT := Lib.hid hT
  have HO := Lib.hid hok
  clear hT hok
  go_enter Tryz.func22, Tryz.ntmps22
  go_wp2_with fail
  refine (wNumber_keep g l (rows.length : Int) w h (by omega) (by omega)).mono ?_
  rintro e w1 ⟨rfl, h1, B1, K1⟩
  have hp10 : (putN ((rows.length : Int)).toNat).length ≤ 10 := putN_len10 _ (by omega)
  go_wp2_with fail
  go_loopw [14] (fun i wr => ∃ (k : Nat) (cur : List UInt8), k ≤ rows.length ∧ i = .int .i64 k ∧ Wr wr g cur ∧ Below g w wr ∧ WKeep g w wr ∧ Hid (l ++ rowsB encL rows = cur ++ (rows.drop k).flatMap encL) ∧ cur.length ≤ l.length + 10 + 62 * k) (fun i _ => rows.length - (intOf i).toNat)
  case atStart => exact ⟨0, _, Nat.zero_le _, rfl, h1, B1, K1, (show _ = _ by unfold rowsB; simp), by rw [List.length_append]; omega⟩
  case round =>
    obtain ⟨k, cur, hk, rfl, hW, hB, hK, HH, hlen⟩ := hrel
    by_cases hlt : k < rows.length
    · have hx : rows[k]? = some rows[k] := List.getElem?_eq_getElem hlt
      have hdr := dropAtW rows k _ hx
      have hxo := HO.out rows[k] (List.getElem_mem hlt)
      generalize rows[k] = x at *
      obtain ⟨a, ha, hab, _, hat⟩ := (hel.below hB).at_ (k := k) (r := rowL x) (by rw [List.getElem?_map, hx]; rfl)
      subst ha
      have hxl := encL_len hxo
      have hW2 : Wr (wr.alloc (.cells #[Value.string x.job, Value.string x.node, Value.int .i64 x.till] 59)) g cur := hW.below ((Below.refl _ _).alloc (Nat.le_refl _) _)
      have hB2 : Below g w (wr.alloc (.cells #[Value.string x.job, Value.string x.node, Value.int .i64 x.till] 59)) := hB.alloc (by have := hW.lt; omega) _
      have hK2 : WKeep g w (wr.alloc (.cells #[Value.string x.job, Value.string x.node, Value.int .i64 x.till] 59)) := hK.trans (WKeep.of g (Keep.alloc _ _ _))
      have bX := Blk.new wr 59 #[Value.string x.job, Value.string x.node, Value.int .i64 x.till]
      have HC := Lib.hid (wLease_any g cur x _ hW2 hxo (by omega) (fun w' hb => HT.out _ (hB2.trans hb)))
      have HH1 := HH.out
      rw [hdr, List.flatMap_cons, ← List.append_assoc] at HH1
      have HH2 := Lib.hid HH1
      clear HH HH1 hdr hx hW hW2
      go_wp2_with (first
        | (refine wpList_load_at rfl _ _ rfl (a.add (k * 3)) rfl [Value.string x.job, Value.string x.node, Value.int .i64 x.till] _ hat Tryz.underlying59 rfl lease_size ?_)
        | (refine wpList_store_new rfl _ _ _ rfl rfl _ _ #[Value.string x.job, Value.string x.node, Value.int .i64 x.till] rfl lease_size rfl (one_rowLx _) ?_)
        | (refine wpList_load_blk rfl _ _ rfl wr.heap.size rfl _ #[Value.string x.job, Value.string x.node, Value.int .i64 x.till] bX _ Tryz.underlying59 rfl lease_size ?_))
      refine HC.out.mono ?_
      rintro e w3 ⟨rfl, h3, B3, K3⟩
      go_wp2_with fail
      go_roundw
      case rel => exact ⟨k + 1, _, by omega, by go_num, h3, hB2.trans B3, hK2.trans K3, HH2.out, by rw [List.length_append]; omega⟩
      case measure => simp [intOf]; omega
    · obtain rfl : k = rows.length := by omega
      have HH1 := HH.out
      rw [List.drop_length, List.flatMap_nil, List.append_nil] at HH1
      have HH2 := Lib.hid HH1
      clear HH HH1
      go_wp2_with fail
      go_end0
      exact ⟨rfl, HH2.out ▸ hW, hB, hK⟩
end Go.Proofs.YtdicoepjkngikaaGreatDoor
