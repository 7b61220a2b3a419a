/-
  The contract of wire.Writer's Number alone.
-/
import Derived.Test.YtnmokjgnbcfabaaNumP
import Derived.Test.YtnmokjgnbcfabaaPrimW
import Derived.Test.YtnmokjgnbcfabaaBase
import Derived.Test.YtnmokjgnbcfabaaRows0
import Derived.Test.YtnmokjgnbcfabaaBstr
import Derived.Lib.AppendStr
import Derived.StillTailTactics
import Derived.Deep.AppendLies
set_option linter.unusedVariables false
set_option linter.unusedSimpArgs false
namespace Go.Proofs.Ytnmokjgnbcfabaa
open Go.RowKit
theorem Buf.form {U : TypeId} {w : World} {base : Nat} {v : Value} {l : List UInt8} (h : Buf U w base v l) : ∃ a c, v = .slice a l.length c := by
  rcases h.2 with ⟨rfl, h0⟩ | ⟨g, cap, cur, rfl, _⟩
  · exact ⟨none, 0, by rw [h0]⟩
  · exact ⟨_, cap, rfl⟩
/-- The writer in block g has told l. -/
def Wr (w : World) (g : Nat) (l : List UInt8) : Prop := ∃ v, Blk w g 50 #[v] ∧ Buf 5 w (g + 1) v l
theorem Wr.below {w w' : World} {g : Nat} {l : List UInt8} (h : Wr w g l) (hb : Below w.heap.size w w') : Wr w' g l := by
  obtain ⟨v, h1, h2⟩ := h
  exact ⟨v, h1.below hb h1.lt, World.ownsRow.kept (row := none) h2 ⟨hb.os, hb.tape, hb.output, hb.size, fun k hk _ => hb.block k hk⟩ (Classical.em _)⟩
theorem Wr.lt {w : World} {g : Nat} {l : List UInt8} (h : Wr w g l) : g < w.heap.size := by obtain ⟨v, h1, _⟩ := h; exact h1.lt
theorem buf_set {U : TypeId} {w : World} {g : Nat} {v : Value} {l : List UInt8} (h : Buf U w (g + 1) v l) (i : Nat) (u : Value) : Buf U (w.setCell ⟨g, i, none⟩ u) (g + 1) v l :=
  World.ownsRow.kept (row := some g) h ⟨rfl, rfl, rfl, by simp, fun k hk hk2 => Below.heap_setCell w ⟨g, i, none⟩ u k (by intro h0; exact hk2 (by rw [h0]))⟩ (.inr (fun h0 => by have := (World.ownsRow.lt h g h0).1; omega))
set_option maxHeartbeats 1000000 in
set_option maxRecDepth 100000 in
theorem wNumber_any (g : Nat) (l : List UInt8) (n : Int) (w : World) (h : Wr w g l) (hn : 0 ≤ n ∧ n ≤ 4611686018427387904) (hl : l.length ≤ 70368744177664) :
    Calls Try.prog 14 #[.pointer (some ⟨g, 0, none⟩), .int .i64 n] w fun e w' => e = .returned (.tuple #[]) ∧ Wr w' g (l ++ putN n.toNat) ∧ Below g w w' := by
  obtain ⟨v, hb, hv⟩ := h
  obtain ⟨pa, ca, rfl⟩ := hv.form
  obtain ⟨k, rfl⟩ := Int.eq_ofNat_of_zero_le hn.1
  have hw : IntKind.u64.wrap (k : Int) = (k : Int) := by rw [IntKind.wrap_u64]; omega
  have c0 : w.cell? ⟨g, 0, none⟩ = some (.slice pa l.length ca) := hb.cell 0
  have hglt := hb.lt
  go_enter Try.func14, Try.ntmps14
  go_wp2_with fail
  refine (put_any (g + 1) _ l k w (by omega) hl hv (by omega)).mono ?_
  rintro e w1 ⟨v1, rfl, hv1, hb1⟩
  obtain ⟨pb, cb, rfl⟩ := hv1.form
  have b1 := hb.below hb1 (by omega)
  have f1 := b1.frozen 0
  have c1 : w1.cell? ⟨g, 0, none⟩ = some (.slice pa l.length ca) := b1.cell 0
  rw [List.length_append] at hv1
  have hW : Wr (w1.setCell ⟨g, 0, none⟩ (.slice pb (l.length + (putN k).length) cb)) g (l ++ putN k) := ⟨_, b1.set_ 0 _, buf_set hv1 0 _⟩
  have HW := Lib.hid hW
  have hB : Below g w (w1.setCell ⟨g, 0, none⟩ (.slice pb (l.length + (putN k).length) cb)) := (hb1.mono (by omega)).setCell (by show g ≤ g; omega) _
  clear hW hv hv1 hb1 b1
  go_wp2_with fail
  go_end0
  exact ⟨rfl, HW.out, hB⟩
/-- All struct blocks stand, but those of type U. -/
def Keep (U : TypeId) (w w' : World) : Prop := ∀ b t cs, t ≠ U → Blk w b t cs → Blk w' b t cs
theorem Keep.refl (U : TypeId) (w : World) : Keep U w w := fun _ _ _ _ h => h
theorem Keep.trans {U : TypeId} {a b c : World} (h1 : Keep U a b) (h2 : Keep U b c) : Keep U a c := fun k t cs hne h => h2 k t cs hne (h1 k t cs hne h)
theorem Keep.alloc (U : TypeId) (w : World) (o : Obj) : Keep U w (w.alloc o) := fun _ _ _ _ h => Blk.alloc h o
theorem Keep.own {U : TypeId} {w w' : World} {base : Nat} {v : Value} {l : List UInt8} (hb : Buf U w base v l) (hg : w.grownBy w' v.ownBlock) : Keep U w w' := by
  intro b t cs hne h
  refine (hg.block b h.lt ?_).trans h
  rcases hb.2 with ⟨rfl, _⟩ | ⟨g, cap, cur, rfl, _, hc, _⟩
  · intro h0; cases h0
  · intro h0
    injection h0 with h0
    subst h0
    unfold Blk at h
    rw [hc] at h
    injection h with h
    injection h with _ h2
    exact hne h2.symm
section
variable {P : Program} (w : World)
theorem wpList_buf_append_k {ops : Array Oper} {rest : List Oper} {o : Oper} {a : Act} {Q : Exit → Act → World → Prop} (hgd : o.guard = none) (s x : Operand) (t : TypeId)
    (ho : o.op = .call { callee := .builtin .append, args := #[s, x], argTypes := #[t, t] })
    (U : TypeId) (ht : P.underlying t = some (.slice U)) (hinfo : (P.info? U).map (fun i => (i.zero, i.size, i.bytes)) = some (some (.int .u8 0), 1, 1))
    (base : Nat) (v : Value) (l : List UInt8) (hs : a.eval s = v) (hbuf : Buf U w base v l)
    (ad : Addr) (m c : Nat) (news : List UInt8) (hx : a.eval x = .slice (some ad) m c) (hm : m = news.length)
    (hcells : ∀ j u, news[j]? = some u → w.cell? (ad.add j) = some (.int .u8 (u.toNat : Int))) (hlen : l.length + news.length ≤ 140737488355328) (hbase : base ≤ w.heap.size)
    (h : ∀ v' w', Buf U w' base v' (l ++ news) → Below base w w' → Keep U w w' → wpList P ops Q rest (a.put o.dst v') w') : wpList P ops Q (o :: rest) a w := by
  obtain ⟨i0, hi, hz, hz1, hz2⟩ := info_parts hinfo
  subst hm
  refine wpList_append_own w hgd s x t ho base U i0 (.int .u8 0) 1 1 ht hi hz hz1 hz2 rfl (by decide) v l.length (bytesV l) hs hbuf ad news.length c (bytesV news) hx (by simp [bytesV]) ?_ ?_ ?_ ?_ hbase ?_
  · intro j u hj
    simp only [bytesV, List.getElem?_map, Option.map_eq_some_iff] at hj
    obtain ⟨u', hu, rfl⟩ := hj
    exact hcells j u' hu
  · intro u hu
    simp only [bytesV, List.mem_map] at hu
    obtain ⟨u', _, rfl⟩ := hu
    rfl
  · simp only [maxLen]; omega
  · omega
  · intro v' w' hown hg hat
    refine h v' w' ?_ ?_ (Keep.own hbuf hg)
    · unfold Buf
      rw [bytesV_append, List.length_append]
      exact hown
    · refine (Below.refl base w).grown hg hbase (fun k hk => ?_)
      exact (World.ownsRow.lt hbuf k hk).1
end
set_option maxHeartbeats 1000000 in
set_option maxRecDepth 100000 in
theorem put_keep (base : Nat) (v : Value) (l : List UInt8) (n : Nat) (w : World) (hn : n < 18446744073709551616) (hl : l.length ≤ 70368744177664) (hbuf : Buf 5 w base v l) (hbase : base ≤ w.heap.size) :
    Calls Try.prog 20 #[v, .int .u64 n] w fun e w' => ∃ v', e = .returned v' ∧ Buf 5 w' base v' (l ++ putN n) ∧ Below base w w' ∧ Keep 5 w w' := by
  have hn' := putN_len10 n hn
  go_enter Try.func20, Try.ntmps20
  go_wp2
  go_loopw [0,1] (fun b i wr => ∃ (v' : Value) (l' : List UInt8) (m : Nat), b = v' ∧ i = .int .u64 m ∧ m < 18446744073709551616 ∧ Buf 5 wr base v' l' ∧ Hid (l' ++ putN m = l ++ putN n) ∧ Below base w wr ∧ Keep 5 w wr ∧ l'.length ≤ l.length + 10) (fun _ i _ => (intOf i).toNat)
  case atStart => exact ⟨v, l, n, rfl, rfl, hn, hbuf, rfl, Below.refl _ _, Keep.refl _ _, by omega⟩
  case round =>
    obtain ⟨v', l', m, rfl, rfl, hm, hb, H, hbel, hkp, hlen⟩ := hrel
    have H1 := H.out
    by_cases h128 : m < 128
    · have hv := Lib.hid (put_last_val m h128)
      rw [putN_lt m h128] at H1
      have HH := Lib.hid H1
      clear H1 H
      go_wp2_with (at_builtin; refine wpList_buf_append_k _ rfl _ _ 48 rfl 5 Try.underlying48 u8_info base _ l' rfl (hb.alloc _) ⟨wr.heap.size, 0, none⟩ 1 1 [UInt8.ofNat m] rfl rfl (cells_new _ _ _ _ (congrArg (fun x => [Value.int .u8 x]) hv.out)) (by simp; omega) (by simp; have := hbel.size; omega) ?_)
      intro v2 w2 hb2 hbel2 hk2
      go_wp2
      go_ret
      exact ⟨v2, rfl, HH.out ▸ hb2, (hbel.alloc (by have := hbel.size; omega) _).trans hbel2, (hkp.trans ((Keep.alloc _ _ _).trans hk2))⟩
    · have hv := Lib.hid (put_step_val m)
      rw [putN_ge m h128] at H1
      have HH := Lib.hid H1
      clear H1 H
      go_wp2_with (at_builtin; refine wpList_buf_append_k _ rfl _ _ 48 rfl 5 Try.underlying48 u8_info base _ l' rfl (hb.alloc _) ⟨wr.heap.size, 0, none⟩ 1 1 [hiB m] rfl rfl (cells_new _ _ _ _ (congrArg (fun x => [Value.int .u8 x]) hv.out)) (by simp; omega) (by simp; have := hbel.size; omega) ?_)
      intro v2 w2 hb2 hbel2 hk2
      go_wp2
      go_roundw
      case rel => exact ⟨v2, l' ++ [hiB m], m / 128, rfl, by go_num, by omega, hb2, by show _ = _; rw [List.append_assoc]; exact HH.out, (hbel.alloc (by have := hbel.size; omega) _).trans hbel2, (hkp.trans ((Keep.alloc _ _ _).trans hk2)), by have := congrArg List.length HH.out; have h3 := putN_pos (m / 128); simp only [List.length_append, List.length_cons, List.length_nil] at this ⊢; omega⟩
      case measure => simp [intOf]; omega

theorem Keep.drew (U : TypeId) (w : World) : Keep U w w.drew := fun _ _ _ _ h => h
theorem Keep.below {U : TypeId} {w w' : World} (hb : Below w.heap.size w w') : Keep U w w' := fun _ _ _ _ h => h.below hb h.lt
/-- All struct blocks stand, but those of bytes and the writer's. -/
def WKeep (g : Nat) (w w' : World) : Prop := ∀ b t cs, t ≠ 5 → b ≠ g → Blk w b t cs → Blk w' b t cs
theorem WKeep.of {w w' : World} (g : Nat) (h : Keep 5 w w') : WKeep g w w' := fun b t cs hne _ hb => h b t cs hne hb
theorem WKeep.trans {g : Nat} {a b c : World} (h1 : WKeep g a b) (h2 : WKeep g b c) : WKeep g a c := fun k t cs hne hg h => h2 k t cs hne hg (h1 k t cs hne hg h)
theorem WKeep.set_ {g : Nat} {w w' : World} (h : WKeep g w w') (i : Nat) (u : Value) : WKeep g w (w'.setCell ⟨g, i, none⟩ u) := fun b t cs hne hg hb => (h b t cs hne hg hb).far hg u
set_option maxHeartbeats 1000000 in
set_option maxRecDepth 100000 in
theorem wNumber_keep (g : Nat) (l : List UInt8) (n : Int) (w : World) (h : Wr w g l) (hn : 0 ≤ n ∧ n ≤ 4611686018427387904) (hl : l.length ≤ 70368744177664) :
    Calls Try.prog 14 #[.pointer (some ⟨g, 0, none⟩), .int .i64 n] w fun e w' => e = .returned (.tuple #[]) ∧ Wr w' g (l ++ putN n.toNat) ∧ Below g w w' ∧ WKeep g w w' := by
  obtain ⟨v, hb, hv⟩ := h
  obtain ⟨pa, ca, rfl⟩ := hv.form
  obtain ⟨k, rfl⟩ := Int.eq_ofNat_of_zero_le hn.1
  have hw : IntKind.u64.wrap (k : Int) = (k : Int) := by rw [IntKind.wrap_u64]; omega
  have c0 : w.cell? ⟨g, 0, none⟩ = some (.slice pa l.length ca) := hb.cell 0
  have hglt := hb.lt
  go_enter Try.func14, Try.ntmps14
  go_wp2_with fail
  refine (put_keep (g + 1) _ l k w (by omega) hl hv (by omega)).mono ?_
  rintro e w1 ⟨v1, rfl, hv1, hb1, hk1⟩
  obtain ⟨pb, cb, rfl⟩ := hv1.form
  have b1 := hb.below hb1 (by omega)
  have f1 := b1.frozen 0
  have c1 : w1.cell? ⟨g, 0, none⟩ = some (.slice pa l.length ca) := b1.cell 0
  rw [List.length_append] at hv1
  have hW : Wr (w1.setCell ⟨g, 0, none⟩ (.slice pb (l.length + (putN k).length) cb)) g (l ++ putN k) := ⟨_, b1.set_ 0 _, buf_set hv1 0 _⟩
  have HW := Lib.hid hW
  have HK := Lib.hid ((WKeep.of g hk1).set_ 0 (.slice pb (l.length + (putN k).length) cb))
  have hB : Below g w (w1.setCell ⟨g, 0, none⟩ (.slice pb (l.length + (putN k).length) cb)) := (hb1.mono (by omega)).setCell (by show g ≤ g; omega) _
  clear hW hv hv1 hb1 b1
  go_wp2_with fail
  go_end0
  exact ⟨rfl, HW.out, hB, HK.out⟩
end Go.Proofs.Ytnmokjgnbcfabaa
