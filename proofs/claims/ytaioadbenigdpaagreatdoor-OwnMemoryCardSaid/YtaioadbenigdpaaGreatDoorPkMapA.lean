/-
  Several texts in one: MapO, ValO, ValJ, ValN, ValL.
-/
import Derived.Test.YtaioadbenigdpaaGreatDoorPkBase
import Derived.Maps.OwnSet
import Derived.Maps.OwnIn
import Derived.Sort.KeysCollected
import Derived.RangeFuncMany
import Derived.RangeFuncLeaves
import Derived.RangeFuncGives
import Derived.Sort.MapsRangeIn
import Derived.WalkKit
import Derived.OwnWalkIn
import Derived.TacticsInMore
import Derived.RegionIn
import Derived.LoopNIn
import Derived.LoopIn
import Derived.Shelf.Abstract
import Derived.Test.YtaioadbenigdpaaGreatDoorPkStateA
set_option linter.unusedVariables false
set_option linter.unusedSimpArgs false
set_option maxHeartbeats 16000000
set_option maxRecDepth 100000
namespace Go.Proofs.YtaioadbenigdpaaGreatDoor
open Go.RowKit Go.Maps Go.ChangeMaps
def HR (v : Value) : Option (DataW Value × List MemPlace) := some (.held v, [])
def OM (P : Program) (kt : TypeId) (w : World) (b n : Nat) (f : List UInt8 → Option Value) : Prop :=
 ∃ D : DataW Value, w.ownsMap P kt HR b n D ∧ ∀ k, Maps.has D (.string k) = (f k).isSome ∧ ∀ v, f k = some v → ∀ z, D.atKey (.string k) z = .held v
def putF (f : List UInt8 → Option Value) (s : List UInt8) (v : Value) : List UInt8 → Option Value := fun k => if k = s then some v else f k
def delF (f : List UInt8 → Option Value) (s : List UInt8) : List UInt8 → Option Value := fun k => if k = s then none else f k
section
variable {P : Program} {t kt e : TypeId} {w : World} {b n : Nat} {f : List UInt8 → Option Value}
theorem OM.made (w : World) (P : Program) (kt : TypeId) : OM P kt (w.alloc (.map #[] 0)) w.heap.size 0 (fun _ => none) :=
 ⟨.map [], World.ownsMap_made w P kt HR, fun k => ⟨rfl, fun v h => by cases h⟩⟩
theorem OM.lt (h : OM P kt w b n f) : b < w.heap.size := by obtain ⟨D, h1, _⟩ := h; exact h1.lt
theorem OM.kept {w' : World} {row : Option Nat} (h : OM P kt w b n f) (hg : w.grownBy w' row) (hne : some b ≠ row) : OM P kt w' b n f := by
 obtain ⟨D, h1, h2⟩ := h
 exact ⟨D, h1.kept hg hne, h2⟩
theorem OM.below {w' : World} (h : OM P kt w b n f) (hb : Below w.heap.size w w') : OM P kt w' b n f :=
 h.kept (row := none) ⟨hb.os, hb.tape, hb.output, hb.size, fun k hk _ => hb.block k hk⟩ (fun h => by cases h)
theorem OM.mono (h : OM P kt w b n f) {m : Nat} (hm : n ≤ m) : OM P kt w b m f := by
 obtain ⟨D, h1, h2⟩ := h
 exact ⟨D, h1.mono hm, h2⟩
theorem key_str (hk : P.underlying kt = some .string) {s : ByteArray} (hs : s.size ≤ maxLen) : keyOf P kt (.string s) = some (.string s.data.toList) := by
 simp [keyOf, hk, mapKey, hs]
theorem OM.look (h : OM P kt w b n f) (ht : P.underlying t = some (.map kt e)) (hk : P.underlying kt = some .string) {z : Value} (hz : (zeroValue e).run P w = .ok z w) {s : ByteArray} (hs : s.size ≤ maxLen) :
  (Instr.lookup t (.map (some b)) (.string s) true).run P w = .ok (.tuple #[(f s.data.toList).getD z, .bool (f s.data.toList).isSome]) w := by
 obtain ⟨D, h1, h2⟩ := h
 obtain ⟨v, ps, hr, hv⟩ := h1.look_ok (string_keyed hk) ht hz (zd := .held z) (zp := []) rfl (key_str hk hs)
 obtain ⟨a1, a2⟩ := h2 s.data.toList
 rw [hr, a1]
 unfold HR at hv
 cases hf : f s.data.toList with
 | none =>
  rw [hf] at a1
  rw [atKey_of_not_has (by rw [a1]; rfl)] at hv
  simp at hv
  rw [hv.1]; rfl
 | some x =>
  rw [a2 x hf] at hv
  simp at hv
  rw [hv.1]; rfl
theorem OM.store (h : OM P kt w b n f) (ht : P.underlying t = some (.map kt e)) (hk : P.underlying kt = some .string) (hn : n < maxLen) {s : ByteArray} (hs : s.size ≤ maxLen) (v : Value) :
  ∃ w', (Instr.mapUpdate t (.map (some b)) (.string s) v).run P w = .ok () w' ∧ OM P kt w' b (n + 1) (putF f s.data.toList v) ∧ w.grownBy w' (some b) := by
 obtain ⟨D, h1, h2⟩ := h
 obtain ⟨w', hr, h3, h4⟩ := h1.store (string_keyed hk) ht hn (key_str hk hs) (val := v) (d := .held v) (ps := []) rfl
 refine ⟨w', hr, ⟨_, h3, fun k => ?_⟩, h4.grown⟩
 unfold putF
 by_cases he : k = s.data.toList
 ·subst he
  rw [if_pos rfl]
  refine ⟨has_put_same h1.isMap (k := .string s.data.toList) trivial _, fun v' hv z => ?_⟩
  injection hv with hv
  rw [← hv]
  exact atKey_put_same h1.isMap (k := .string s.data.toList) trivial _ z
 ·rw [if_neg he]
  have hne : (Lit.string k) ≠ .string s.data.toList := fun hh => he (by injection hh)
  rw [has_put_other hne]
  refine ⟨(h2 k).1, fun v' hv z => ?_⟩
  rw [atKey_put_other hne]
  exact (h2 k).2 v' hv z
theorem OM.drop (h : OM P kt w b n f) (ht : P.underlying t = some (.map kt e)) (hk : P.underlying kt = some .string) {s : ByteArray} (hs : s.size ≤ maxLen) (ty : TypeId) :
  ∃ w', (Builtin.delete_ #[t, kt] ty #[.map (some b), .string s]).run P w = .ok (.tuple #[]) w' ∧ OM P kt w' b n (delF f s.data.toList) ∧ w.grownBy w' (some b) := by
 obtain ⟨D, h1, h2⟩ := h
 obtain ⟨w', hr, h3, h4⟩ := h1.drop (string_keyed hk) ht (key_str hk hs) ty
 refine ⟨w', hr, ⟨_, h3, fun k => ?_⟩, h4.grown⟩
 unfold delF
 by_cases he : k = s.data.toList
 ·subst he
  rw [if_pos rfl]
  exact ⟨has_del_same, fun v' hv z => by cases hv⟩
 ·rw [if_neg he]
  have hne : (Lit.string k) ≠ .string s.data.toList := fun hh => he (by injection hh)
  rw [has_del_other hne]
  refine ⟨(h2 k).1, fun v' hv z => ?_⟩
  rw [atKey_del_other hne]
  exact (h2 k).2 v' hv z
end
open Go.RowKit
section
variable {F : Fence} {nF : Nat} {P : Program} {ops : Array Oper} {rest : List Oper} {op : Oper} {a : Act} {Q : Exit → Act → World → Prop} {w : World}
theorem wpListIn_store_blk (hgd : op.guard = none) (ty : TypeId) (x y : Operand) (ho : op.op = .store ty x y) (g : Nat) (hx : a.eval x = .pointer (some ⟨g, 0, none⟩)) (t : TypeId) (cs cs' : Array Value) (hb : Blk w g t cs)
  (hy : a.eval y = .agg cs') (hi : (P.info? ty).map (·.size) = some cs'.size) (hs : cs.size = cs'.size) (h1 : cs'.all (·.oneCell') = true)
  (h : wpListIn F nF P ops Q rest (a.put op.dst undef) (w.setRow g cs')) : wpListIn F nF P ops Q (op :: rest) a w := by
 refine wpListIn_plain hgd fun _ hK => ?_
 unfold Oper.wpIn
 refine ⟨by simp [Oper.about, ho], ?_⟩
 rw [Oper.semAt_plain F _ _ (by rw [ho]; intro c hc'; cases hc')]
 simp only [execOp, ho, hx, hy, Instr.storeAt, Instr.sureAddr, Sem.run_bind, Sem.run_pure, Result.andThen_ok, run_storeVar_row w g t ty cs cs' hb hi hs h1]
 exact hK _ _ h
theorem wpListIn_store_new (hgd : op.guard = none) (ty : TypeId) (x y : Operand) (ho : op.op = .store ty x y) (hx : a.eval x = .pointer (some ⟨w.heap.size, 0, none⟩)) (t : TypeId) (cs cs' : Array Value)
  (hy : a.eval y = .agg cs') (hi : (P.info? ty).map (·.size) = some cs'.size) (hs : cs.size = cs'.size) (h1 : cs'.all (·.oneCell') = true)
  (h : wpListIn F nF P ops Q rest (a.put op.dst undef) (w.alloc (.cells cs' t))) : wpListIn F nF P ops Q (op :: rest) a (w.alloc (.cells cs t)) :=
 wpListIn_store_blk hgd ty x y ho w.heap.size hx t cs cs' (Blk.new w t cs) hy hi hs h1 (by rw [World.setRow_alloc_new]; exact h)
theorem wpListIn_load_blk (hgd : op.guard = none) (ty : TypeId) (x : Operand) (ho : op.op = .load ty x) (g : Nat) (hx : a.eval x = .pointer (some ⟨g, 0, none⟩)) (t : TypeId) (cs : Array Value) (hb : Blk w g t cs)
  (d : TypeDesc) (hu : P.underlying ty = some d) (hd : TypeDesc.isRow d = true) (hi : (P.info? ty).map (·.size) = some cs.size)
  (h : wpListIn F nF P ops Q rest (a.put op.dst (.agg cs)) w) : wpListIn F nF P ops Q (op :: rest) a w := by
 refine wpListIn_plain hgd fun _ hK => ?_
 unfold Oper.wpIn
 refine ⟨by simp [Oper.about, ho], ?_⟩
 rw [Oper.semAt_plain F _ _ (by rw [ho]; intro c hc'; cases hc')]
 simp only [execOp, ho, hx, Instr.loadAt, Instr.sureAddr, Sem.run_bind, Sem.run_pure, Result.andThen_ok, loadVar_blk hb hu hd hi]
 exact hK _ _ h
end
def AllV {α : Type} (f : List UInt8 → Option α) (xs : List α) : Prop :=
 ∃ ps : List (List UInt8 × α), xs = ps.map (·.2) ∧ (ps.map (·.1)).Nodup ∧ (∀ p ∈ ps, f p.1 = some p.2) ∧ ∀ k x, f k = some x → k ∈ ps.map (·.1)
open Go.RowKit Go.Maps Go.Sort Go.Shelf
theorem zeroJ_lit (W : World) : (zeroValue 31).run Tryz.prog W = .ok (.agg #[.string ByteArray.empty, .int .i64 0, .int .i64 0, .int .i64 0, .string ByteArray.empty]) W := by kernel_rfl
theorem valuesJ_in (F : Fence) (n : Nat) (hF : F.fn 104) (hro : F.round = none) (hn : 1 ≤ n) (l Bm b nn : Nat) (f : List UInt8 → Option JobD) (J : List JobD → World → Prop)
  (hY : ∀ pre x W, J pre W → pre.length < nn → YieldAt F (n - 1) Tryz.prog l #[Value.agg #[.string x.name, .int .i64 x.prio, .int .i64 x.need, .int .i64 x.tries, .string x.tag]] W fun e W' => e = .returned (.bool true) ∧ J (pre ++ [x]) W' ∧ KeepsWalks W W')
  (W : World) (hJ : AbidesFrom W.heap.size J) (hm : W.cell? ⟨Bm, 0, none⟩ = some (.map (some b))) (hown : OM Tryz.prog 9 W b nn (fun k => (f k).map fun x => Value.agg #[.string x.name, .int .i64 x.prio, .int .i64 x.need, .int .i64 x.tries, .string x.tag])) (h0 : J [] W) :
  CallsIn F n Tryz.prog 104 #[.func (.yield l) #[] #[], .pointer (some ⟨Bm, 0, none⟩)] W fun e W' => (∃ v, e = .returned v) ∧ ∃ xs, AllV f xs ∧ J xs W' := by
 obtain ⟨D0, hown, hD⟩ := hown
 have hsz := hown.size_le
 have law : Keyed Tryz.prog 9 := string_keyed Tryz.underlying9
 have hzd := zeroJ_lit
 refine callsIn_of_wp Tryz.func104 rfl hF ?_ hro
 simp only [Tryz.ntmps104, List.size_toArray, List.length_cons, List.length_nil, Nat.reduceAdd, Nat.reduceSub, Array.replicate_succ, Array.replicate_zero, List.push_toArray, List.append_toArray, List.nil_append, List.cons_append]
 gi_wp2_with (first
  | (gi_at_range; refine wpListIn_range_own _ rfl _ 109 rfl 9 31 law Tryz.underlying109 _ b nn _ rfl hown ?_; intro w0 hrg0 hg0 hs0)
  | gi_in)
 try go_frame
 gi_loopw [4] (fun _ wr => ∃ (left : Lit → Bool) (cnt : Nat) (ps : List (List UInt8 × JobD)), wr.ranges Tryz.prog 9 HR b W.heap.size nn D0 left cnt ∧ ps.length + cnt ≤ Maps.size D0 ∧ Collected D0 left (ps.map (·.1)) ∧ (∀ p ∈ ps, f p.1 = some p.2) ∧ J (ps.map (·.2)) wr)
  (fun _ wr => wr.rangeLeft b W.heap.size)
 case atStart =>
  exact ⟨_, _, [], hrg0, by simp, Collected.start D0, by simp, hJ [] W w0 none h0 hg0 (fun r e => by cases e)⟩
 case round =>
  obtain ⟨left, cnt, ps, hrg, hcs, hC, hV, hJs⟩ := hrel
  gi_wp2_with (first
   | (gi_at_next; refine wpListIn_next_ranges _ rfl _ rfl 9 law HR encStr id (fun key kl hk => by obtain ⟨x, hx, _⟩ := Maps.keyOf_str Tryz.underlying9 hk; exact ⟨x, hx⟩) (fun v _ _ => ⟨v, rfl⟩) b W.heap.size nn _ _ _ rfl hrg ?_ ?_)
   | gi_in)
  ·
   intro hc0 hl0
   gi_wp2
   go_end0
   refine ⟨⟨_, rfl⟩, _, ⟨ps, rfl, hC.1, hV, fun k x hk => ?_⟩, hJs⟩
   refine (hC.2 k).2 ⟨?_, hl0 _⟩
   rw [(hD k).1, hk]; rfl
  ·
   intro x c kl yd yp w2 cnt2 hkey hlk hv hat hrg2 hlt hg2 hs2 hen
   obtain ⟨x', ex, rfl, _⟩ := Maps.keyOf_str Tryz.underlying9 hkey
   obtain rfl : x = x' := encStr_inj ex
   obtain rfl : yd = .held c := by unfold HR at hv; simp at hv; exact hv.1.symm
   have hh := Maps.has_true_of_atKey hat
   rw [(hD x).1] at hh
   obtain ⟨y, hy⟩ : ∃ y, f x = some y := by
    cases hf : f x with
    | none => rw [hf] at hh; simp at hh
    | some y => exact ⟨y, rfl⟩
   obtain rfl : c = Value.agg #[.string y.name, .int .i64 y.prio, .int .i64 y.need, .int .i64 y.tries, .string y.tag] := by
    have h1 := (hD x).2 _ (by rw [hy]; rfl) (.nil)
    have h2 := hat .nil
    rw [h1] at h2
    injection h2 with h2
    exact h2.symm
   try simp only [id] at hen ⊢
   have hJ2 : J (ps.map (·.2)) w2 := hJ _ wr w2 (some W.heap.size) hJs hg2 (fun r e => by cases e; exact ⟨Nat.le_refl _, hrg.iter_walk⟩)
   obtain ⟨w3, hw3⟩ : ∃ w3, w2.alloc (.cells #[.string y.name, .int .i64 y.prio, .int .i64 y.need, .int .i64 y.tries, .string y.tag] 31) = w3 := ⟨_, rfl⟩
   have hg3 : w2.grownBy w3 none := by rw [← hw3]; exact ⟨rfl, rfl, rfl, by simp, fun k hk _ => Below.heap_alloc _ _ k hk⟩
   have hJ3 : J (ps.map (·.2)) w3 := hJ _ w2 w3 none hJ2 hg3 (fun r e => by cases e)
   have hb3 : Blk w3 w2.heap.size 31 #[.string y.name, .int .i64 y.prio, .int .i64 y.need, .int .i64 y.tries, .string y.tag] := by rw [← hw3]; exact Blk.new w2 _ _
   have hk3 : KeepsWalks w2 w3 := by rw [← hw3]; exact KeepsWalks.alloc _ _
   obtain ⟨fn, tmps, assign, body, hy', hR⟩ := hY (ps.map (·.2)) y w3 hJ3 (by simp; omega)
   clear hs2 hkey hv
   gi_wp2_with (first
    | (refine wpListIn_store_new rfl _ _ _ rfl rfl _ _ #[.string y.name, .int .i64 y.prio, .int .i64 y.need, .int .i64 y.tries, .string y.tag] rfl job_size rfl rfl ?_; rw [hw3])
    | (refine wpListIn_load_blk rfl _ _ rfl w2.heap.size rfl _ #[.string y.name, .int .i64 y.prio, .int .i64 y.need, .int .i64 y.tries, .string y.tag] hb3 _ Tryz.underlying31 rfl job_size ?_)
    | gi_in)
   refine hR.mono ?_
   have hC2 : Collected D0 (fun z => left z && !z.sameKey (.string x)) ((ps ++ [(x, y)]).map (·.1)) := by simpa using hC.step hlk hat
   have hV2 : ∀ p ∈ ps ++ [(x, y)], f p.1 = some p.2 := fun p hp => (List.mem_append.1 hp).elim (hV p) (fun e => by simp at e; subst e; exact hy)
   rintro e W3 ⟨rfl, hJ4, hk4⟩
   gi_wp2
   have hrg3 := hrg2.of_walks (hk3.trans hk4)
   go_roundw
   case rel => exact ⟨_, cnt2, ps ++ [(x, y)], hrg3, by simp; omega, hC2, hV2, by simpa using hJ4⟩
   case measure => rw [hrg3.left_eq, hrg.left_eq]; exact hlt
open Go.RowKit Go.Maps Go.Sort Go.Shelf
theorem zeroN_lit (W : World) : (zeroValue 34).run Tryz.prog W = .ok (.agg #[.string ByteArray.empty, .int .i64 0, .string ByteArray.empty]) W := by kernel_rfl
theorem valuesN_in (F : Fence) (n : Nat) (hF : F.fn 108) (hro : F.round = none) (hn : 1 ≤ n) (l Bm b nn : Nat) (f : List UInt8 → Option NodeD) (J : List NodeD → World → Prop)
  (hY : ∀ pre x W, J pre W → pre.length < nn → YieldAt F (n - 1) Tryz.prog l #[Value.agg #[.string x.name, .int .i64 x.room, .string x.zone]] W fun e W' => e = .returned (.bool true) ∧ J (pre ++ [x]) W' ∧ KeepsWalks W W')
  (W : World) (hJ : AbidesFrom W.heap.size J) (hm : W.cell? ⟨Bm, 0, none⟩ = some (.map (some b))) (hown : OM Tryz.prog 9 W b nn (fun k => (f k).map fun x => Value.agg #[.string x.name, .int .i64 x.room, .string x.zone])) (h0 : J [] W) :
  CallsIn F n Tryz.prog 108 #[.func (.yield l) #[] #[], .pointer (some ⟨Bm, 0, none⟩)] W fun e W' => (∃ v, e = .returned v) ∧ ∃ xs, AllV f xs ∧ J xs W' := by
 obtain ⟨D0, hown, hD⟩ := hown
 have hsz := hown.size_le
 have law : Keyed Tryz.prog 9 := string_keyed Tryz.underlying9
 have hzd := zeroN_lit
 refine callsIn_of_wp Tryz.func108 rfl hF ?_ hro
 simp only [Tryz.ntmps108, List.size_toArray, List.length_cons, List.length_nil, Nat.reduceAdd, Nat.reduceSub, Array.replicate_succ, Array.replicate_zero, List.push_toArray, List.append_toArray, List.nil_append, List.cons_append]
 gi_wp2_with (first
  | (gi_at_range; refine wpListIn_range_own _ rfl _ 110 rfl 9 34 law Tryz.underlying110 _ b nn _ rfl hown ?_; intro w0 hrg0 hg0 hs0)
  | gi_in)
 try go_frame
 gi_loopw [4] (fun _ wr => ∃ (left : Lit → Bool) (cnt : Nat) (ps : List (List UInt8 × NodeD)), wr.ranges Tryz.prog 9 HR b W.heap.size nn D0 left cnt ∧ ps.length + cnt ≤ Maps.size D0 ∧ Collected D0 left (ps.map (·.1)) ∧ (∀ p ∈ ps, f p.1 = some p.2) ∧ J (ps.map (·.2)) wr)
  (fun _ wr => wr.rangeLeft b W.heap.size)
 case atStart =>
  exact ⟨_, _, [], hrg0, by simp, Collected.start D0, by simp, hJ [] W w0 none h0 hg0 (fun r e => by cases e)⟩
 case round =>
  obtain ⟨left, cnt, ps, hrg, hcs, hC, hV, hJs⟩ := hrel
  gi_wp2_with (first
   | (gi_at_next; refine wpListIn_next_ranges _ rfl _ rfl 9 law HR encStr id (fun key kl hk => by obtain ⟨x, hx, _⟩ := Maps.keyOf_str Tryz.underlying9 hk; exact ⟨x, hx⟩) (fun v _ _ => ⟨v, rfl⟩) b W.heap.size nn _ _ _ rfl hrg ?_ ?_)
   | gi_in)
  ·
   intro hc0 hl0
   gi_wp2
   go_end0
   refine ⟨⟨_, rfl⟩, _, ⟨ps, rfl, hC.1, hV, fun k x hk => ?_⟩, hJs⟩
   refine (hC.2 k).2 ⟨?_, hl0 _⟩
   rw [(hD k).1, hk]; rfl
  ·
   intro x c kl yd yp w2 cnt2 hkey hlk hv hat hrg2 hlt hg2 hs2 hen
   obtain ⟨x', ex, rfl, _⟩ := Maps.keyOf_str Tryz.underlying9 hkey
   obtain rfl : x = x' := encStr_inj ex
   obtain rfl : yd = .held c := by unfold HR at hv; simp at hv; exact hv.1.symm
   have hh := Maps.has_true_of_atKey hat
   rw [(hD x).1] at hh
   obtain ⟨y, hy⟩ : ∃ y, f x = some y := by
    cases hf : f x with
    | none => rw [hf] at hh; simp at hh
    | some y => exact ⟨y, rfl⟩
   obtain rfl : c = Value.agg #[.string y.name, .int .i64 y.room, .string y.zone] := by
    have h1 := (hD x).2 _ (by rw [hy]; rfl) (.nil)
    have h2 := hat .nil
    rw [h1] at h2
    injection h2 with h2
    exact h2.symm
   try simp only [id] at hen ⊢
   have hJ2 : J (ps.map (·.2)) w2 := hJ _ wr w2 (some W.heap.size) hJs hg2 (fun r e => by cases e; exact ⟨Nat.le_refl _, hrg.iter_walk⟩)
   obtain ⟨w3, hw3⟩ : ∃ w3, w2.alloc (.cells #[.string y.name, .int .i64 y.room, .string y.zone] 34) = w3 := ⟨_, rfl⟩
   have hg3 : w2.grownBy w3 none := by rw [← hw3]; exact ⟨rfl, rfl, rfl, by simp, fun k hk _ => Below.heap_alloc _ _ k hk⟩
   have hJ3 : J (ps.map (·.2)) w3 := hJ _ w2 w3 none hJ2 hg3 (fun r e => by cases e)
   have hb3 : Blk w3 w2.heap.size 34 #[.string y.name, .int .i64 y.room, .string y.zone] := by rw [← hw3]; exact Blk.new w2 _ _
   have hk3 : KeepsWalks w2 w3 := by rw [← hw3]; exact KeepsWalks.alloc _ _
   obtain ⟨fn, tmps, assign, body, hy', hR⟩ := hY (ps.map (·.2)) y w3 hJ3 (by simp; omega)
   clear hs2 hkey hv
   gi_wp2_with (first
    | (refine wpListIn_store_new rfl _ _ _ rfl rfl _ _ #[.string y.name, .int .i64 y.room, .string y.zone] rfl node_size rfl rfl ?_; rw [hw3])
    | (refine wpListIn_load_blk rfl _ _ rfl w2.heap.size rfl _ #[.string y.name, .int .i64 y.room, .string y.zone] hb3 _ Tryz.underlying34 rfl node_size ?_)
    | gi_in)
   refine hR.mono ?_
   have hC2 : Collected D0 (fun z => left z && !z.sameKey (.string x)) ((ps ++ [(x, y)]).map (·.1)) := by simpa using hC.step hlk hat
   have hV2 : ∀ p ∈ ps ++ [(x, y)], f p.1 = some p.2 := fun p hp => (List.mem_append.1 hp).elim (hV p) (fun e => by simp at e; subst e; exact hy)
   rintro e W3 ⟨rfl, hJ4, hk4⟩
   gi_wp2
   have hrg3 := hrg2.of_walks (hk3.trans hk4)
   go_roundw
   case rel => exact ⟨_, cnt2, ps ++ [(x, y)], hrg3, by simp; omega, hC2, hV2, by simpa using hJ4⟩
   case measure => rw [hrg3.left_eq, hrg.left_eq]; exact hlt
open Go.RowKit Go.Maps Go.Sort Go.Shelf
theorem zeroL_lit (W : World) : (zeroValue 37).run Tryz.prog W = .ok (.agg #[.string ByteArray.empty, .string ByteArray.empty, .int .i64 0]) W := by kernel_rfl
theorem valuesL_in (F : Fence) (n : Nat) (hF : F.fn 111) (hro : F.round = none) (hn : 1 ≤ n) (l Bm b nn : Nat) (f : List UInt8 → Option LeaseD) (J : List LeaseD → World → Prop)
  (hY : ∀ pre x W, J pre W → pre.length < nn → YieldAt F (n - 1) Tryz.prog l #[Value.agg #[.string x.job, .string x.node, .int .i64 x.till]] W fun e W' => e = .returned (.bool true) ∧ J (pre ++ [x]) W' ∧ KeepsWalks W W')
  (W : World) (hJ : AbidesFrom W.heap.size J) (hm : W.cell? ⟨Bm, 0, none⟩ = some (.map (some b))) (hown : OM Tryz.prog 9 W b nn (fun k => (f k).map fun x => Value.agg #[.string x.job, .string x.node, .int .i64 x.till])) (h0 : J [] W) :
  CallsIn F n Tryz.prog 111 #[.func (.yield l) #[] #[], .pointer (some ⟨Bm, 0, none⟩)] W fun e W' => (∃ v, e = .returned v) ∧ ∃ xs, AllV f xs ∧ J xs W' := by
 obtain ⟨D0, hown, hD⟩ := hown
 have hsz := hown.size_le
 have law : Keyed Tryz.prog 9 := string_keyed Tryz.underlying9
 have hzd := zeroL_lit
 refine callsIn_of_wp Tryz.func111 rfl hF ?_ hro
 simp only [Tryz.ntmps111, List.size_toArray, List.length_cons, List.length_nil, Nat.reduceAdd, Nat.reduceSub, Array.replicate_succ, Array.replicate_zero, List.push_toArray, List.append_toArray, List.nil_append, List.cons_append]
 gi_wp2_with (first
  | (gi_at_range; refine wpListIn_range_own _ rfl _ 132 rfl 9 37 law Tryz.underlying132 _ b nn _ rfl hown ?_; intro w0 hrg0 hg0 hs0)
  | gi_in)
 try go_frame
 gi_loopw [4] (fun _ wr => ∃ (left : Lit → Bool) (cnt : Nat) (ps : List (List UInt8 × LeaseD)), wr.ranges Tryz.prog 9 HR b W.heap.size nn D0 left cnt ∧ ps.length + cnt ≤ Maps.size D0 ∧ Collected D0 left (ps.map (·.1)) ∧ (∀ p ∈ ps, f p.1 = some p.2) ∧ J (ps.map (·.2)) wr)
  (fun _ wr => wr.rangeLeft b W.heap.size)
 case atStart =>
  exact ⟨_, _, [], hrg0, by simp, Collected.start D0, by simp, hJ [] W w0 none h0 hg0 (fun r e => by cases e)⟩
 case round =>
  obtain ⟨left, cnt, ps, hrg, hcs, hC, hV, hJs⟩ := hrel
  gi_wp2_with (first
   | (gi_at_next; refine wpListIn_next_ranges _ rfl _ rfl 9 law HR encStr id (fun key kl hk => by obtain ⟨x, hx, _⟩ := Maps.keyOf_str Tryz.underlying9 hk; exact ⟨x, hx⟩) (fun v _ _ => ⟨v, rfl⟩) b W.heap.size nn _ _ _ rfl hrg ?_ ?_)
   | gi_in)
  ·
   intro hc0 hl0
   gi_wp2
   go_end0
   refine ⟨⟨_, rfl⟩, _, ⟨ps, rfl, hC.1, hV, fun k x hk => ?_⟩, hJs⟩
   refine (hC.2 k).2 ⟨?_, hl0 _⟩
   rw [(hD k).1, hk]; rfl
  ·
   intro x c kl yd yp w2 cnt2 hkey hlk hv hat hrg2 hlt hg2 hs2 hen
   obtain ⟨x', ex, rfl, _⟩ := Maps.keyOf_str Tryz.underlying9 hkey
   obtain rfl : x = x' := encStr_inj ex
   obtain rfl : yd = .held c := by unfold HR at hv; simp at hv; exact hv.1.symm
   have hh := Maps.has_true_of_atKey hat
   rw [(hD x).1] at hh
   obtain ⟨y, hy⟩ : ∃ y, f x = some y := by
    cases hf : f x with
    | none => rw [hf] at hh; simp at hh
    | some y => exact ⟨y, rfl⟩
   obtain rfl : c = Value.agg #[.string y.job, .string y.node, .int .i64 y.till] := by
    have h1 := (hD x).2 _ (by rw [hy]; rfl) (.nil)
    have h2 := hat .nil
    rw [h1] at h2
    injection h2 with h2
    exact h2.symm
   try simp only [id] at hen ⊢
   have hJ2 : J (ps.map (·.2)) w2 := hJ _ wr w2 (some W.heap.size) hJs hg2 (fun r e => by cases e; exact ⟨Nat.le_refl _, hrg.iter_walk⟩)
   obtain ⟨w3, hw3⟩ : ∃ w3, w2.alloc (.cells #[.string y.job, .string y.node, .int .i64 y.till] 37) = w3 := ⟨_, rfl⟩
   have hg3 : w2.grownBy w3 none := by rw [← hw3]; exact ⟨rfl, rfl, rfl, by simp, fun k hk _ => Below.heap_alloc _ _ k hk⟩
   have hJ3 : J (ps.map (·.2)) w3 := hJ _ w2 w3 none hJ2 hg3 (fun r e => by cases e)
   have hb3 : Blk w3 w2.heap.size 37 #[.string y.job, .string y.node, .int .i64 y.till] := by rw [← hw3]; exact Blk.new w2 _ _
   have hk3 : KeepsWalks w2 w3 := by rw [← hw3]; exact KeepsWalks.alloc _ _
   obtain ⟨fn, tmps, assign, body, hy', hR⟩ := hY (ps.map (·.2)) y w3 hJ3 (by simp; omega)
   clear hs2 hkey hv
   gi_wp2_with (first
    | (refine wpListIn_store_new rfl _ _ _ rfl rfl _ _ #[.string y.job, .string y.node, .int .i64 y.till] rfl lease_size rfl rfl ?_; rw [hw3])
    | (refine wpListIn_load_blk rfl _ _ rfl w2.heap.size rfl _ #[.string y.job, .string y.node, .int .i64 y.till] hb3 _ Tryz.underlying37 rfl lease_size ?_)
    | gi_in)
   refine hR.mono ?_
   have hC2 : Collected D0 (fun z => left z && !z.sameKey (.string x)) ((ps ++ [(x, y)]).map (·.1)) := by simpa using hC.step hlk hat
   have hV2 : ∀ p ∈ ps ++ [(x, y)], f p.1 = some p.2 := fun p hp => (List.mem_append.1 hp).elim (hV p) (fun e => by simp at e; subst e; exact hy)
   rintro e W3 ⟨rfl, hJ4, hk4⟩
   gi_wp2
   have hrg3 := hrg2.of_walks (hk3.trans hk4)
   go_roundw
   case rel => exact ⟨_, cnt2, ps ++ [(x, y)], hrg3, by simp; omega, hC2, hV2, by simpa using hJ4⟩
   case measure => rw [hrg3.left_eq, hrg.left_eq]; exact hlt
end Go.Proofs.YtaioadbenigdpaaGreatDoor
