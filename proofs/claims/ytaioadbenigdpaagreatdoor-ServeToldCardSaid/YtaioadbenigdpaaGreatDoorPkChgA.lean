/-
  Several texts in one: ChgQ, ChgO, ChgJ, ChgN, ChgL.
-/
import Derived.Test.YtaioadbenigdpaaGreatDoorPkChgP
import Derived.Test.YtaioadbenigdpaaGreatDoorPkMapA
import Derived.Test.YtaioadbenigdpaaGreatDoorPkMapB2
import Derived.Test.YtaioadbenigdpaaGreatDoorPkHeld
import Derived.Test.YtaioadbenigdpaaGreatDoorPkStrs
import Derived.Test.YtaioadbenigdpaaGreatDoorPkDelB
import Derived.Test.YtaioadbenigdpaaGreatDoorPkDelA
import Derived.Carry
set_option linter.unusedVariables false
set_option linter.unusedSimpArgs false
set_option maxHeartbeats 16000000
set_option maxRecDepth 100000
namespace Go.Proofs.YtaioadbenigdpaaGreatDoor
section
variable {α : Type} {key : α → ByteArray} {f : List UInt8 → Option α} {M M' : α → Prop}
def IsM (key : α → ByteArray) (f : List UInt8 → Option α) (M : α → Prop) : Prop := ∀ k x, f k = some x ↔ M x ∧ (key x).data.toList = k
def putX (f : List UInt8 → Option α) (s : List UInt8) (x : α) : List UInt8 → Option α := fun k => if k = s then some x else f k
def delX (f : List UInt8 → Option α) (s : List UInt8) : List UInt8 → Option α := fun k => if k = s then none else f k
theorem list_inj {a b : ByteArray} (h : a.data.toList = b.data.toList) : a = b := ByteArray.ext (Array.toList_inj.1 h)
theorem isM_none : IsM key (fun _ => (none : Option α)) (fun _ => False) := fun k x => ⟨fun h => (by cases h), fun h => h.1.elim⟩
theorem IsM.congr (h : IsM key f M) (hm : ∀ z, M z ↔ M' z) : IsM key f M' := fun k x => (h k x).trans (by rw [hm x])
theorem IsM.put (h : IsM key f M) (x : α) : IsM key (putX f (key x).data.toList x) (fun z => z = x ∨ (M z ∧ key z ≠ key x)) := fun k z => by
 unfold putX
 by_cases hk : k = (key x).data.toList
 ·subst hk
  rw [if_pos rfl]
  constructor
  ·intro h'; injection h' with h'; subst h'; exact ⟨.inl rfl, rfl⟩
  ·rintro ⟨rfl | ⟨_, h1⟩, h2⟩
   ·rfl
   ·exact absurd (list_inj h2) h1
 ·rw [if_neg hk, h k z]
  constructor
  ·rintro ⟨h1, h2⟩
   exact ⟨.inr ⟨h1, fun e => hk (by rw [← h2, e])⟩, h2⟩
  ·rintro ⟨rfl | ⟨h1, _⟩, h2⟩
   ·exact absurd h2.symm hk
   ·exact ⟨h1, h2⟩
theorem IsM.del (h : IsM key f M) (s : ByteArray) : IsM key (delX f s.data.toList) (fun z => M z ∧ key z ≠ s) := fun k z => by
 unfold delX
 by_cases hk : k = s.data.toList
 ·subst hk
  rw [if_pos rfl]
  constructor
  ·intro h'; cases h'
  ·rintro ⟨⟨_, h1⟩, h2⟩
   exact absurd (list_inj h2) h1
 ·rw [if_neg hk, h k z]
  constructor
  ·rintro ⟨h1, h2⟩
   exact ⟨⟨h1, fun e => hk (by rw [← h2, e])⟩, h2⟩
  ·rintro ⟨⟨h1, _⟩, h2⟩
   exact ⟨h1, h2⟩
theorem IsM.at_none (h : IsM key f M) {s : ByteArray} (hs : f s.data.toList = none) : ∀ x, M x → key x ≠ s := fun x hx he => by
 have := (h s.data.toList x).2 ⟨hx, by rw [he]⟩
 rw [hs] at this; cases this
theorem IsM.at_some (h : IsM key f M) {s : ByteArray} {x : α} (hs : f s.data.toList = some x) : M x ∧ key x = s := by
 obtain ⟨h1, h2⟩ := (h _ x).1 hs
 exact ⟨h1, list_inj h2⟩
theorem put_map {β : Type} (g : α → β) (f : List UInt8 → Option α) (s : List UInt8) (x : α) (k : List UInt8) : (if k = s then some (g x) else (f k).map g) = (putX f s x k).map g := by
 unfold putX; split <;> rfl
theorem del_map {β : Type} (g : α → β) (f : List UInt8 → Option α) (s : List UInt8) (k : List UInt8) : (if k = s then none else (f k).map g) = (delX f s k).map g := by
 unfold delX; split <;> rfl
theorem sorted_vals (h : IsM key f M) {ss ts : List α} (ha : AllV f ss) (hp : ts.Perm ss) (hs : ts.Pairwise fun x y => ltS (key y) (key x) = false) : Sorted key ts ∧ ∀ x, x ∈ ts ↔ M x := by
 obtain ⟨ps, rfl, h1, h2, h3⟩ := ha
 constructor
 ·refine keys_pw hs ?_
  refine (hp.pairwise_iff (fun h => Ne.symm h)).2 ?_
  rw [List.pairwise_map]
  rw [List.Nodup, List.pairwise_map] at h1
  refine List.Pairwise.imp_of_mem ?_ h1
  intro a b ha hb hne he
  have e1 := ((h _ _).1 (h2 a ha)).2
  have e2 := ((h _ _).1 (h2 b hb)).2
  exact hne (by rw [← e1, ← e2, he])
 ·intro x
  rw [hp.mem_iff, List.mem_map]
  constructor
  ·rintro ⟨p, hp, rfl⟩
   exact ((h _ _).1 (h2 p hp)).1
  ·intro hx
   have hf := (h (key x).data.toList x).2 ⟨hx, rfl⟩
   obtain ⟨p, hp, he⟩ := List.mem_map.1 (h3 _ _ hf)
   refine ⟨p, hp, ?_⟩
   have := h2 p hp
   rw [he, hf] at this
   injection this with this
   exact this.symm
end
section
variable {α : Type} {key : α → ByteArray} {f : List UInt8 → Option α} {rows set : List α} {gone : List ByteArray}
def M1 (rows : List α) (j : Nat) (x : α) : Prop := x ∈ rows.take j
def M2 (key : α → ByteArray) (rows : List α) (gone : List ByteArray) (j : Nat) (x : α) : Prop := x ∈ rows ∧ key x ∉ gone.take j
def M3 (key : α → ByteArray) (rows set : List α) (gone : List ByteArray) (j : Nat) (x : α) : Prop := x ∈ set.take j ∨ (x ∈ rows ∧ key x ∉ gone ∧ ∀ y ∈ set.take j, key y ≠ key x)
theorem mem_take_succ {l : List α} {j : Nat} {x z : α} (h : l[j]? = some x) : z ∈ l.take (j + 1) ↔ z ∈ l.take j ∨ z = x := by
 rw [List.take_add_one, h, Option.toList_some, List.mem_append, List.mem_singleton]
theorem IsM.start : IsM key (fun _ => (none : Option α)) (M1 rows 0) := isM_none.congr fun z => by simp [M1]
theorem IsM.one (hs : Sorted key rows) {j : Nat} {x : α} (hx : rows[j]? = some x) (h : IsM key f (M1 rows j)) : IsM key (putX f (key x).data.toList x) (M1 rows (j + 1)) := (h.put x).congr fun z => by
 unfold M1
 rw [mem_take_succ hx]
 constructor
 ·rintro (h | h)
  ·exact .inr h
  ·exact .inl h.1
 ·rintro (h | h)
  ·exact .inr ⟨h, sorted_before hs hx z h⟩
  ·exact .inl h
theorem IsM.all (h : IsM key f (M1 rows rows.length)) : IsM key f (M2 key rows gone 0) := h.congr fun z => by simp [M1, M2]
theorem IsM.two {j : Nat} {s : ByteArray} (hx : gone[j]? = some s) (h : IsM key f (M2 key rows gone j)) : IsM key (delX f s.data.toList) (M2 key rows gone (j + 1)) := (h.del s).congr fun z => by
 unfold M2
 rw [mem_take_succ hx, not_or, and_assoc]
theorem IsM.left (h : IsM key f (M2 key rows gone gone.length)) : IsM key f (M3 key rows set gone 0) := h.congr fun z => by simp [M2, M3]
theorem IsM.three {j : Nat} {x : α} (hs : Sorted key set) (hx : set[j]? = some x) (h : IsM key f (M3 key rows set gone j)) : IsM key (putX f (key x).data.toList x) (M3 key rows set gone (j + 1)) := (h.put x).congr fun z => by
 unfold M3
 have hm : ∀ y, y ∈ set.take (j + 1) ↔ y ∈ set.take j ∨ y = x := fun y => mem_take_succ hx
 rw [hm]
 constructor
 ·rintro (rfl | ⟨h1 | ⟨h1, h2, h3⟩, h4⟩)
  ·exact .inl (.inr rfl)
  ·exact .inl (.inl h1)
  ·refine .inr ⟨h1, h2, fun y hy => ?_⟩
   rcases (hm y).1 hy with hy | rfl
   ·exact h3 y hy
   ·exact Ne.symm h4
 ·rintro ((h1 | rfl) | ⟨h1, h2, h3⟩)
  ·exact .inr ⟨.inl h1, sorted_before hs hx z h1⟩
  ·exact .inl rfl
  ·exact .inr ⟨.inr ⟨h1, h2, fun y hy => h3 y ((hm y).2 (.inl hy))⟩, Ne.symm (h3 x ((hm x).2 (.inr rfl)))⟩
theorem gone_missing (hs : Sorted (fun s : ByteArray => s) gone) {j : Nat} {s : ByteArray} (hx : gone[j]? = some s) (h : ∀ x, M2 key rows gone j x → key x ≠ s) : chgB key rows gone = false := by
 cases hc : chgB key rows gone
 ·rfl
 ·obtain ⟨x, h1, h2⟩ := chgB_iff.1 hc s (List.mem_of_getElem? hx)
  exact absurd h2 (h x ⟨h1, fun hm => sorted_before (key := fun s : ByteArray => s) hs hx (key x) hm h2⟩)
theorem gone_there (h : ∀ s ∈ gone.take gone.length, ∃ x ∈ rows, key x = s) : chgB key rows gone = true := chgB_iff.2 (by rw [List.take_length] at h; exact h)
theorem gone_step {j : Nat} {s : ByteArray} {x : α} (hx : gone[j]? = some s) (h : ∀ s ∈ gone.take j, ∃ x ∈ rows, key x = s) (hm : M2 key rows gone j x ∧ key x = s) : ∀ s ∈ gone.take (j + 1), ∃ x ∈ rows, key x = s := by
 intro t ht
 rcases (mem_take_succ hx).1 ht with h1 | rfl
 ·exact h t h1
 ·exact ⟨x, hm.1.1, hm.2⟩
theorem chg_done (hr : Sorted key rows) (hs : Sorted key set) (h : IsM key f (M3 key rows set gone set.length)) {ss ts : List α} (ha : AllV f ss) (hp : ts.Perm ss) (hw : ts.Pairwise fun x y => ltS (key y) (key x) = false) : ts = chgL key rows set gone := by
 obtain ⟨h1, h2⟩ := sorted_vals h ha hp hw
 refine (chgL_eq hr hs ⟨h1, fun x => ?_⟩).symm
 rw [h2 x]
 unfold M3
 rw [List.take_length]
end
open Go.RowKit
section
variable {P : Program} {ops : Array Oper} {o : Oper} {a : Act} {w : World} {K : Act → World → Prop} {Q : Exit → Act → World → Prop} {E : Prop}
theorem step_map_put (hw : Region.wanted o (yielded ops a.tmps) = true) (t : TypeId) (x y z : Operand) (ho : o.op = .mapUpdate t x y z) {m k v : Value} (hx : a.eval x = m) (hy : a.eval y = k) (hz : a.eval z = v) {w' : World}
  (hr : (Instr.mapUpdate t m k v).run P w = .ok () w') (h : K (a.put o.dst undef) w') : if Region.wanted o (yielded ops a.tmps) = true then Oper.wp P o a w K Q else E := by
 rw [if_pos hw]
 unfold Oper.wp execOp
 simp only [ho, hx, hy, hz, Sem.run_bind, Sem.run_pure, Result.andThen_ok, hr]
 exact h
end
theorem GrB.then_ {w W W' : World} {g : Nat} (h : GrB w g W) (hg : W.grownBy W' (some g)) : GrB w g W' :=
 ⟨hg.os.trans h.os, hg.tape.trans h.tape, hg.output.trans h.output, Nat.le_trans h.size hg.size, fun k hk hne => (hg.block k (Nat.lt_of_lt_of_le hk h.size) hne).trans (h.block k hk hne)⟩
theorem OM.put_ {α : Type} {P : Program} {kt : TypeId} {w : World} {b n : Nat} {g : α → Value} {f : List UInt8 → Option α} {k : List UInt8} {x : α} (h : OM P kt w b n (putF (fun s => (f s).map g) k (g x))) : OM P kt w b n (fun s => (putX f k x s).map g) := by
 have e : putF (fun s => (f s).map g) k (g x) = fun s => (putX f k x s).map g := funext fun s => put_map g f k x s
 rw [← e]; exact h
theorem OM.del_ {α : Type} {P : Program} {kt : TypeId} {w : World} {b n : Nat} {g : α → Value} {f : List UInt8 → Option α} {k : List UInt8} (h : OM P kt w b n (delF (fun s => (f s).map g) k)) : OM P kt w b n (fun s => (delX f k s).map g) := by
 have e : delF (fun s => (f s).map g) k = fun s => (delX f k s).map g := funext fun s => del_map g f k s
 rw [← e]; exact h
theorem OM.drew {P : Program} {kt : TypeId} {w : World} {b n : Nat} {f : List UInt8 → Option Value} (h : OM P kt w b n f) : OM P kt w.drew b n f := h.below (Below.refl _ w).drew
def chgR {α : Type} (key : α → ByteArray) (rows set : List α) (gone : List ByteArray) : List α := if chgB key rows gone = true then chgL key rows set gone else []
theorem ownR_flat {α : Type} {w : World} {base size : Nat} {E : TypeId} {v : Value} {l : List α} {row : α → List Value} (hs : ∀ x, (row x).length = size) (h : w.ownsRow base E size v l.length (l.map row).flatten) : ∃ p c, v = .slice p l.length c ∧ OwnR w base E size p c (l.map row) := by
 obtain ⟨p, c, rfl⟩ := own_form h
 refine ⟨p, c, rfl, fun r hr => by obtain ⟨x, _, rfl⟩ := List.mem_map.1 hr; exact hs x, ?_⟩
 rw [List.length_map]; exact h
open Go.RowKit
theorem changedJ_any (rows set : List JobD) (gone : List ByteArray) (p1 p2 p3 : Option Addr) (c1 c2 c3 : Nat) (w : World) (h1 : Elts w w.heap.size 5 p1 (rows.map rowJ)) (h2 : Elts w w.heap.size 5 p2 (set.map rowJ)) (h3 : Elts w w.heap.size 1 p3 (gone.map rowS))
  (l1 : rows.length ≤ 1000) (l2 : set.length ≤ 1000) (l3 : gone.length ≤ 1000) (s1 : Sorted JobD.name rows) (s2 : Sorted JobD.name set) (s3 : Sorted (fun s : ByteArray => s) gone)
  (k1 : ∀ x ∈ rows, x.name.size ≤ 16) (k2 : ∀ x ∈ set, x.name.size ≤ 16) (k3 : ∀ s ∈ gone, s.size ≤ 16) :
  Calls Tryz.prog 29 #[.slice p1 rows.length c1, .slice p2 set.length c2, .slice p3 gone.length c3, .func (.func 30) #[] #[]] w fun e w' =>
   ∃ p c, e = .returned (.tuple #[.slice p (chgR JobD.name rows set gone).length c, .bool (chgB JobD.name rows gone)]) ∧ OwnR w' w.heap.size 31 5 p c ((chgR JobD.name rows set gone).map rowJ) ∧ Below w.heap.size w w' := by
 have e1 : (w.alloc (.cells #[Value.func (.func 30) #[] #[]] 78)).heap.size = w.heap.size + 1 := by simp
 have om0 := OM.made (w.alloc (.cells #[Value.func (.func 30) #[] #[]] 78)) Tryz.prog 9
 rw [e1] at om0
 have bk0 := (Blk.new w 78 #[Value.func (.func 30) #[] #[]]).alloc (.map #[] 0)
 have b0 : Below w.heap.size w ((w.alloc (.cells #[Value.func (.func 30) #[] #[]] 78)).alloc (.map #[] 0)) := ((Below.refl _ _).alloc (Nat.le_refl _) _).alloc (by simp) _
 clear e1
 have S1 := Lib.hid s1
 have S2 := Lib.hid s2
 have S3 := Lib.hid s3
 have K1 := Lib.hid k1
 have K2 := Lib.hid k2
 have K3 := Lib.hid k3
 have HX := Lib.hid (fun (x : JobD) (W : World) => keyxJ_any x W)
 have HZ := Lib.hid (fun W => zeroJ_lit W)
 clear s1 s2 s3 k1 k2 k3
 have hmm := @run_makeMap Tryz.prog
 go_enter Tryz.func29, Tryz.ntmps29
 go_wp2_with fail
 generalize (w.alloc _).alloc _ = W0 at *
 go_loopw [22] (fun i wr => ∃ (k : Nat) (f : List UInt8 → Option JobD), k ≤ rows.length ∧ i = .int .i64 k ∧ Below w.heap.size w wr ∧ Blk wr w.heap.size 78 #[Value.func (.func 30) #[] #[]] ∧ OM Tryz.prog 9 wr (w.heap.size + 1) k (fun s => (f s).map (fun x : JobD => Value.agg #[.string x.name, .int .i64 x.prio, .int .i64 x.need, .int .i64 x.tries, .string x.tag])) ∧ Hid (IsM JobD.name f (M1 rows k))) (fun i _ => rows.length - (intOf i).toNat)
 case atStart => exact ⟨0, fun _ => none, Nat.zero_le _, rfl, b0, bk0, om0, (show IsM JobD.name _ (M1 rows 0) from IsM.start)⟩
 case round =>
  clear b0 bk0 om0
  obtain ⟨k, f, hk, rfl, hbr, bk, om, HI⟩ := hrel
  by_cases hlt : k < rows.length
  ·have hx : rows[k]? = some rows[k] := List.getElem?_eq_getElem hlt
   have hsz := K1.out rows[k] (List.getElem_mem hlt)
   generalize rows[k] = x at *
   obtain ⟨a, rfl, hab, _, hat⟩ := (h1.below hbr).at_ (k := k) (r := rowJ x) (by rw [List.getElem?_map, hx]; rfl)
   have I2 := Lib.hid (HI.out.one S1.out hx)
   have bx := Blk.new wr 31 #[.string x.name, .int .i64 x.prio, .int .i64 x.need, .int .i64 x.tries, .string x.tag]
   have bk5 := bk.alloc (.cells #[.string x.name, .int .i64 x.prio, .int .i64 x.need, .int .i64 x.tries, .string x.tag] 31)
   have c5 := hbr.alloc hbr.size (.cells #[.string x.name, .int .i64 x.prio, .int .i64 x.need, .int .i64 x.tries, .string x.tag] 31)
   have om5 := om.below ((Below.refl _ wr).alloc (Nat.le_refl _) (.cells #[.string x.name, .int .i64 x.prio, .int .i64 x.need, .int .i64 x.tries, .string x.tag] 31))
   have hgx : wr.heap.size ≠ w.heap.size + 1 := by have := om.lt; omega
   have hsm : x.name.size ≤ maxLen := by unfold maxLen; omega
   have hgk : w.heap.size ≠ w.heap.size + 1 := by omega
   clear hx HI hbr bk om hsz
   go_upto_region 5 with (first | (refine wpList_load_at rfl _ _ rfl (a.add (k * 5)) rfl [Value.string x.name, Value.int .i64 x.prio, Value.int .i64 x.need, Value.int .i64 x.tries, Value.string x.tag] _ hat Tryz.underlying31 rfl job_size ?_) | (refine wpList_store_new rfl _ _ _ rfl rfl 31 _ #[.string x.name, .int .i64 x.prio, .int .i64 x.need, .int .i64 x.tries, .string x.tag] rfl job_size rfl rfl ?_))
   clear hat
   generalize wr.alloc _ = W5 at *
   generalize wr.heap.size = gx at *
   have G0 : GrB W5 (w.heap.size + 1) W5.drew := GrB.start _ _
   refine wp_region_held_drew (S := GrB W5 (w.heap.size + 1)) (by kernel_rfl) G0 (fun hHeld => ?_)
   refine tk 0 (v := ?_) rfl (Or.inl ⟨by rfl, ?_⟩) ?_
   rotate_left
   ·(intro w5 hw5; have q0 := (GrB.blk hw5 bk5 hgk).cell 0; have k0 := (GrB.blk hw5 bx hgx).cell 0; have k1 := (GrB.blk hw5 bx hgx).cell 1; have k2 := (GrB.blk hw5 bx hgx).cell 2; have k3 := (GrB.blk hw5 bx hgx).cell 3; have k4 := (GrB.blk hw5 bx hgx).cell 4; go_simp; (try with_reducible rfl))
   (try simp only [Act.put, ma, mb, mc, md, me, mf])
   refine tk 1 (v := ?_) rfl (Or.inl ⟨by rfl, ?_⟩) ?_
   rotate_left
   ·(intro w5 hw5; have q0 := (GrB.blk hw5 bk5 hgk).cell 0; have k0 := (GrB.blk hw5 bx hgx).cell 0; have k1 := (GrB.blk hw5 bx hgx).cell 1; have k2 := (GrB.blk hw5 bx hgx).cell 2; have k3 := (GrB.blk hw5 bx hgx).cell 3; have k4 := (GrB.blk hw5 bx hgx).cell 4; go_simp; (try with_reducible rfl))
   (try simp only [Act.put, ma, mb, mc, md, me, mf])
   refine tk 2 (v := ?_) rfl (Or.inl ⟨by rfl, ?_⟩) ?_
   rotate_left
   ·(intro w5 hw5; have q0 := (GrB.blk hw5 bk5 hgk).cell 0; have k0 := (GrB.blk hw5 bx hgx).cell 0; have k1 := (GrB.blk hw5 bx hgx).cell 1; have k2 := (GrB.blk hw5 bx hgx).cell 2; have k3 := (GrB.blk hw5 bx hgx).cell 3; have k4 := (GrB.blk hw5 bx hgx).cell 4; go_simp; (try with_reducible rfl))
   (try simp only [Act.put, ma, mb, mc, md, me, mf])
   refine tk 4 (v := ?_) rfl (Or.inl ⟨by rfl, ?_⟩) ?_
   rotate_left
   ·(intro w5 hw5; have q0 := (GrB.blk hw5 bk5 hgk).cell 0; have k0 := (GrB.blk hw5 bx hgx).cell 0; have k1 := (GrB.blk hw5 bx hgx).cell 1; have k2 := (GrB.blk hw5 bx hgx).cell 2; have k3 := (GrB.blk hw5 bx hgx).cell 3; have k4 := (GrB.blk hw5 bx hgx).cell 4; go_simp; (try with_reducible rfl))
   (try simp only [Act.put, ma, mb, mc, md, me, mf])
   refine tr 3 rfl (fun K hK => ?_)
   go_simp
   refine (HX.out x _).mono ?_
   rintro e u1 ⟨rfl, rfl⟩
   have G1 := GrB.more G0 ((Below.refl _ _).alloc (Nat.le_refl _) (.cells #[.string x.name, .int .i64 x.prio, .int .i64 x.need, .int .i64 x.tries, .string x.tag] 31))
   have om6 := om5.drew.below ((Below.refl _ _).alloc (Nat.le_refl _) (.cells #[.string x.name, .int .i64 x.prio, .int .i64 x.need, .int .i64 x.tries, .string x.tag] 31))
   generalize W5.drew.alloc _ = u1 at *
   refine hK.out _ _ ?_ (fun hHeld => ?_)
   ·exact G1
   clear hK K
   (try simp only [Act.put, ma, mb, mc, md, me, mf])
   obtain ⟨u2, hr2, om7, hg2⟩ := om6.store (t := 109) Tryz.underlying109 Tryz.underlying9 (by unfold maxLen; omega) hsm (Value.agg #[.string x.name, .int .i64 x.prio, .int .i64 x.need, .int .i64 x.tries, .string x.tag])
   have G2 := G1.then_ hg2
   refine tr 5 rfl (fun K hK => ?_)
   refine step_map_put rfl 109 _ _ _ rfl rfl rfl rfl hr2 ?_
   refine hK.out _ _ ?_ (fun hHeld => ?_)
   ·exact G2
   clear hK K
   (try simp only [Act.put, ma, mb, mc, md, me, mf])
   refine wpAnyH_done (by kernel_rfl) ?_ _
   have bk7 := GrB.blk G2 bk5 hgk
   have c7 : Below w.heap.size w u2 := c5.grown G2 c5.size (fun k e => by cases e; omega)
   have om8 := OM.put_ (g := (fun x : JobD => Value.agg #[.string x.name, .int .i64 x.prio, .int .i64 x.need, .int .i64 x.tries, .string x.tag])) om7
   clear G0 G1 G2 om5 om6 om7 bk5 c5 bx hr2 hg2
   go_wp2_with fail
   go_roundw
   case rel => exact ⟨k + 1, putX f x.name.data.toList x, by omega, by go_num, c7, bk7, om8, I2.out⟩
   case measure => simp [intOf]; omega
  ·obtain rfl : k = rows.length := by omega
   have I0 := Lib.hid (HI.out.all (gone := gone))
   clear HI
   go_wp2_with fail
   clear hlt
   obtain ⟨wo, rfl⟩ : ∃ wo : World, wo = wr := ⟨_, rfl⟩
   go_loopw [34] (fun i wr => ∃ (k : Nat) (f : List UInt8 → Option JobD), k ≤ gone.length ∧ i = .int .i64 k ∧ Below w.heap.size w wr ∧ Blk wr w.heap.size 78 #[Value.func (.func 30) #[] #[]] ∧ OM Tryz.prog 9 wr (w.heap.size + 1) rows.length (fun s => (f s).map (fun x : JobD => Value.agg #[.string x.name, .int .i64 x.prio, .int .i64 x.need, .int .i64 x.tries, .string x.tag])) ∧ Hid (IsM JobD.name f (M2 JobD.name rows gone k) ∧ ∀ s ∈ gone.take k, ∃ x ∈ rows, x.name = s)) (fun i _ => gone.length - (intOf i).toNat)
   case atStart => exact ⟨0, f, Nat.zero_le _, rfl, hbr, bk, om, (show IsM JobD.name f (M2 JobD.name rows gone 0) ∧ _ from ⟨I0.out, fun s hs => by simp at hs⟩)⟩
   case round =>
    clear I0 om bk hbr
    obtain ⟨k, f, hk, rfl, hbr, bk, om, HI⟩ := hrel
    by_cases hlt : k < gone.length
    ·have hx : gone[k]? = some gone[k] := List.getElem?_eq_getElem hlt
     have hsz := K3.out gone[k] (List.getElem_mem hlt)
     generalize gone[k] = s at *
     obtain ⟨a, rfl, hab, _, hat⟩ := (h3.below hbr).at_ (k := k) (r := rowS s) (by rw [List.getElem?_map, hx]; rfl)
     have e1 := at_one hat
     have hsm : s.size ≤ maxLen := by unfold maxLen; omega
     have hlk := om.look (t := 109) Tryz.underlying109 Tryz.underlying9 (HZ.out _) hsm
     clear hat hsz
     cases hf : f s.data.toList with
     | none =>
      have hB := Lib.hid (gone_missing S3.out hx (HI.out.1.at_none hf))
      simp only [hf, Option.map_none, Option.getD_none, Option.isSome_none] at hlk
      have c5 := hbr.alloc hbr.size (.cells #[.string ByteArray.empty, .int .i64 0, .int .i64 0, .int .i64 0, .string ByteArray.empty] 31)
      clear hf hx HI
      go_wp2_with (first | (refine wpList_store_new rfl _ _ _ rfl rfl 31 _ #[.string ByteArray.empty, .int .i64 0, .int .i64 0, .int .i64 0, .string ByteArray.empty] rfl job_size rfl rfl ?_))
      go_ret2
      have hR : chgR JobD.name rows set gone = [] := by unfold chgR; rw [hB.out]; rfl
      exact ⟨none, 0, by rw [hR, hB.out]; rfl, by rw [hR]; exact ⟨fun r hr => by simp at hr, World.ownsRow_nil _ _ _ _⟩, c5⟩
     | some x =>
      have I2 := Lib.hid (And.intro (HI.out.1.two hx) (gone_step hx HI.out.2 (HI.out.1.at_some hf)))
      simp only [hf, Option.map_some, Option.getD_some, Option.isSome_some] at hlk
      have c5 := hbr.alloc hbr.size (.cells #[.string x.name, .int .i64 x.prio, .int .i64 x.need, .int .i64 x.tries, .string x.tag] 31)
      have bk5 := bk.alloc (.cells #[.string x.name, .int .i64 x.prio, .int .i64 x.need, .int .i64 x.tries, .string x.tag] 31)
      obtain ⟨u2, hr2, om7, hg2⟩ := (om.below ((Below.refl _ _).alloc (Nat.le_refl _) (.cells #[.string x.name, .int .i64 x.prio, .int .i64 x.need, .int .i64 x.tries, .string x.tag] 31))).drop (t := 109) Tryz.underlying109 Tryz.underlying9 hsm 0
      have om8 := OM.del_ (g := (fun x : JobD => Value.agg #[.string x.name, .int .i64 x.prio, .int .i64 x.need, .int .i64 x.tries, .string x.tag])) om7
      have c7 : Below w.heap.size w u2 := c5.grown hg2 c5.size (fun k e => by cases e; omega)
      have bk7 : Blk u2 w.heap.size 78 #[Value.func (.func 30) #[] #[]] := (hg2.block _ bk5.lt (fun e => by injection e with e; omega)).trans bk5
      clear hf hx HI om7 hg2 c5 bk5
      go_wp2_with (first | (refine wpList_store_new rfl _ _ _ rfl rfl 31 _ #[.string x.name, .int .i64 x.prio, .int .i64 x.need, .int .i64 x.tries, .string x.tag] rfl job_size rfl rfl ?_))
      go_roundw
      case rel => exact ⟨k + 1, delX f s.data.toList, by omega, by go_num, c7, bk7, om8, I2.out⟩
      case measure => simp [intOf]; omega
    ·obtain rfl : k = gone.length := by omega
     have hB := Lib.hid (gone_there HI.out.2)
     have I0 := Lib.hid (HI.out.1.left (set := set))
     clear HI
     go_wp2_with fail
     clear hlt
     obtain ⟨wp, rfl⟩ : ∃ wp : World, wp = wr := ⟨_, rfl⟩
     go_loopw [51] (fun i wr => ∃ (k : Nat) (f : List UInt8 → Option JobD), k ≤ set.length ∧ i = .int .i64 k ∧ Below w.heap.size w wr ∧ Blk wr w.heap.size 78 #[Value.func (.func 30) #[] #[]] ∧ OM Tryz.prog 9 wr (w.heap.size + 1) (rows.length + k) (fun s => (f s).map (fun x : JobD => Value.agg #[.string x.name, .int .i64 x.prio, .int .i64 x.need, .int .i64 x.tries, .string x.tag])) ∧ Hid (IsM JobD.name f (M3 JobD.name rows set gone k))) (fun i _ => set.length - (intOf i).toNat)
     case atStart => exact ⟨0, f, Nat.zero_le _, rfl, hbr, bk, om, I0.out⟩
     case round =>
      clear I0 om bk hbr
      obtain ⟨k, f, hk, rfl, hbr, bk, om, HI⟩ := hrel
      by_cases hlt : k < set.length
      ·have hx : set[k]? = some set[k] := List.getElem?_eq_getElem hlt
       have hsz := K2.out set[k] (List.getElem_mem hlt)
       generalize set[k] = x at *
       obtain ⟨a, rfl, hab, _, hat⟩ := (h2.below hbr).at_ (k := k) (r := rowJ x) (by rw [List.getElem?_map, hx]; rfl)
       have I2 := Lib.hid (HI.out.three S2.out hx)
       have bx := Blk.new wr 31 #[.string x.name, .int .i64 x.prio, .int .i64 x.need, .int .i64 x.tries, .string x.tag]
       have bk5 := bk.alloc (.cells #[.string x.name, .int .i64 x.prio, .int .i64 x.need, .int .i64 x.tries, .string x.tag] 31)
       have c5 := hbr.alloc hbr.size (.cells #[.string x.name, .int .i64 x.prio, .int .i64 x.need, .int .i64 x.tries, .string x.tag] 31)
       have om5 := om.below ((Below.refl _ wr).alloc (Nat.le_refl _) (.cells #[.string x.name, .int .i64 x.prio, .int .i64 x.need, .int .i64 x.tries, .string x.tag] 31))
       have hgx : wr.heap.size ≠ w.heap.size + 1 := by have := om.lt; omega
       have hsm : x.name.size ≤ maxLen := by unfold maxLen; omega
       have hgk : w.heap.size ≠ w.heap.size + 1 := by omega
       clear hx HI hbr bk om hsz
       go_upto_region 18 with (first | (refine wpList_load_at rfl _ _ rfl (a.add (k * 5)) rfl [Value.string x.name, Value.int .i64 x.prio, Value.int .i64 x.need, Value.int .i64 x.tries, Value.string x.tag] _ hat Tryz.underlying31 rfl job_size ?_) | (refine wpList_store_new rfl _ _ _ rfl rfl 31 _ #[.string x.name, .int .i64 x.prio, .int .i64 x.need, .int .i64 x.tries, .string x.tag] rfl job_size rfl rfl ?_))
       clear hat
       generalize wr.alloc _ = W5 at *
       generalize wr.heap.size = gx at *
       have G0 : GrB W5 (w.heap.size + 1) W5.drew := GrB.start _ _
       refine wp_region_held_drew (S := GrB W5 (w.heap.size + 1)) (by kernel_rfl) G0 (fun hHeld => ?_)
       refine tk 0 (v := ?_) rfl (Or.inl ⟨by rfl, ?_⟩) ?_
       rotate_left
       ·(intro w5 hw5; have q0 := (GrB.blk hw5 bk5 hgk).cell 0; have k0 := (GrB.blk hw5 bx hgx).cell 0; have k1 := (GrB.blk hw5 bx hgx).cell 1; have k2 := (GrB.blk hw5 bx hgx).cell 2; have k3 := (GrB.blk hw5 bx hgx).cell 3; have k4 := (GrB.blk hw5 bx hgx).cell 4; go_simp; (try with_reducible rfl))
       (try simp only [Act.put, ma, mb, mc, md, me, mf])
       refine tk 1 (v := ?_) rfl (Or.inl ⟨by rfl, ?_⟩) ?_
       rotate_left
       ·(intro w5 hw5; have q0 := (GrB.blk hw5 bk5 hgk).cell 0; have k0 := (GrB.blk hw5 bx hgx).cell 0; have k1 := (GrB.blk hw5 bx hgx).cell 1; have k2 := (GrB.blk hw5 bx hgx).cell 2; have k3 := (GrB.blk hw5 bx hgx).cell 3; have k4 := (GrB.blk hw5 bx hgx).cell 4; go_simp; (try with_reducible rfl))
       (try simp only [Act.put, ma, mb, mc, md, me, mf])
       refine tk 2 (v := ?_) rfl (Or.inl ⟨by rfl, ?_⟩) ?_
       rotate_left
       ·(intro w5 hw5; have q0 := (GrB.blk hw5 bk5 hgk).cell 0; have k0 := (GrB.blk hw5 bx hgx).cell 0; have k1 := (GrB.blk hw5 bx hgx).cell 1; have k2 := (GrB.blk hw5 bx hgx).cell 2; have k3 := (GrB.blk hw5 bx hgx).cell 3; have k4 := (GrB.blk hw5 bx hgx).cell 4; go_simp; (try with_reducible rfl))
       (try simp only [Act.put, ma, mb, mc, md, me, mf])
       refine tk 4 (v := ?_) rfl (Or.inl ⟨by rfl, ?_⟩) ?_
       rotate_left
       ·(intro w5 hw5; have q0 := (GrB.blk hw5 bk5 hgk).cell 0; have k0 := (GrB.blk hw5 bx hgx).cell 0; have k1 := (GrB.blk hw5 bx hgx).cell 1; have k2 := (GrB.blk hw5 bx hgx).cell 2; have k3 := (GrB.blk hw5 bx hgx).cell 3; have k4 := (GrB.blk hw5 bx hgx).cell 4; go_simp; (try with_reducible rfl))
       (try simp only [Act.put, ma, mb, mc, md, me, mf])
       refine tr 3 rfl (fun K hK => ?_)
       go_simp
       refine (HX.out x _).mono ?_
       rintro e u1 ⟨rfl, rfl⟩
       have G1 := GrB.more G0 ((Below.refl _ _).alloc (Nat.le_refl _) (.cells #[.string x.name, .int .i64 x.prio, .int .i64 x.need, .int .i64 x.tries, .string x.tag] 31))
       have om6 := om5.drew.below ((Below.refl _ _).alloc (Nat.le_refl _) (.cells #[.string x.name, .int .i64 x.prio, .int .i64 x.need, .int .i64 x.tries, .string x.tag] 31))
       generalize W5.drew.alloc _ = u1 at *
       refine hK.out _ _ ?_ (fun hHeld => ?_)
       ·exact G1
       clear hK K
       (try simp only [Act.put, ma, mb, mc, md, me, mf])
       obtain ⟨u2, hr2, om7, hg2⟩ := om6.store (t := 109) Tryz.underlying109 Tryz.underlying9 (by unfold maxLen; omega) hsm (Value.agg #[.string x.name, .int .i64 x.prio, .int .i64 x.need, .int .i64 x.tries, .string x.tag])
       have G2 := G1.then_ hg2
       refine tr 5 rfl (fun K hK => ?_)
       refine step_map_put rfl 109 _ _ _ rfl rfl rfl rfl hr2 ?_
       refine hK.out _ _ ?_ (fun hHeld => ?_)
       ·exact G2
       clear hK K
       (try simp only [Act.put, ma, mb, mc, md, me, mf])
       refine wpAnyH_done (by kernel_rfl) ?_ _
       have bk7 := GrB.blk G2 bk5 hgk
       have c7 : Below w.heap.size w u2 := c5.grown G2 c5.size (fun k e => by cases e; omega)
       have om8 := OM.put_ (g := (fun x : JobD => Value.agg #[.string x.name, .int .i64 x.prio, .int .i64 x.need, .int .i64 x.tries, .string x.tag])) om7
       clear G0 G1 G2 om5 om6 om7 bk5 c5 bx hr2 hg2
       go_wp2_with fail
       go_roundw
       case rel => exact ⟨k + 1, putX f x.name.data.toList x, by omega, by go_num, c7, bk7, om8, I2.out⟩
       case measure => simp [intOf]; omega
      ·obtain rfl : k = set.length := by omega
       have HD := Lib.hid (fun ss ts ha hp hw => chg_done (ss := ss) (ts := ts) S1.out S2.out HI.out ha hp hw)
       clear HI
       go_upto_region 20 with fail
       have hml : w.heap.size + 1 < wr.heap.size := om.lt
       have hbx : (wr.alloc (.cells #[.map (some (w.heap.size + 1))] 109)).cell? ⟨wr.heap.size, 0, none⟩ = some (.map (some (w.heap.size + 1))) := (Blk.new wr 109 #[.map (some (w.heap.size + 1))]).cell 0
       have hb6 : Below wr.heap.size wr (wr.alloc (.cells #[.map (some (w.heap.size + 1))] 109)) := (Below.refl _ _).alloc (Nat.le_refl _) _
       have om6 := om.below hb6
       have bk6 := bk.below hb6 bk.lt
       have c6 := hbr.trans (hb6.mono hbr.size)
       have hs6 : (wr.alloc (.cells #[.map (some (w.heap.size + 1))] 109)).heap.size = wr.heap.size + 1 := by simp
       have HV := Lib.hid (valuesJ_any (some (w.heap.size + 1)) wr)
       have HS := Lib.hid (sortedJ_any w.heap.size wr.heap.size (w.heap.size + 1) (rows.length + set.length) f _ (bk6.cell 0) (by rw [hs6]; omega) (by rw [hs6]; omega) hbx om6 (by omega))
       clear hbx om6 bk6 hb6 om bk hbr
       go_wp2_with fail
       refine HV.out.mono ?_
       rintro e w6 ⟨rfl, rfl⟩
       go_wp2_with fail
       refine HS.out.mono ?_
       rintro e w7 ⟨v, ss, ts, rfl, hA, hp, hw, hrow, hb7⟩
       obtain rfl := HD.out ss ts hA hp hw
       have c7 := c6.trans (hb7.mono c6.size)
       obtain ⟨p, c, rfl, hO⟩ := ownR_flat rowJ_len hrow
       have hR : chgR JobD.name rows set gone = chgL JobD.name rows set gone := by unfold chgR; rw [hB.out]; rfl
       have hO2 := OwnR.lower hO c6.size
       clear hA hp hw hrow hO hb7 HS HD
       go_wp2_with fail
       go_ret2
       exact ⟨p, c, by rw [hR, hB.out]; rfl, by rw [hR]; exact hO2, c7⟩
open Go.RowKit
theorem changedN_any (rows set : List NodeD) (gone : List ByteArray) (p1 p2 p3 : Option Addr) (c1 c2 c3 : Nat) (w : World) (h1 : Elts w w.heap.size 3 p1 (rows.map rowN)) (h2 : Elts w w.heap.size 3 p2 (set.map rowN)) (h3 : Elts w w.heap.size 1 p3 (gone.map rowS))
  (l1 : rows.length ≤ 1000) (l2 : set.length ≤ 1000) (l3 : gone.length ≤ 1000) (s1 : Sorted NodeD.name rows) (s2 : Sorted NodeD.name set) (s3 : Sorted (fun s : ByteArray => s) gone)
  (k1 : ∀ x ∈ rows, x.name.size ≤ 16) (k2 : ∀ x ∈ set, x.name.size ≤ 16) (k3 : ∀ s ∈ gone, s.size ≤ 16) :
  Calls Tryz.prog 31 #[.slice p1 rows.length c1, .slice p2 set.length c2, .slice p3 gone.length c3, .func (.func 32) #[] #[]] w fun e w' =>
   ∃ p c, e = .returned (.tuple #[.slice p (chgR NodeD.name rows set gone).length c, .bool (chgB NodeD.name rows gone)]) ∧ OwnR w' w.heap.size 34 3 p c ((chgR NodeD.name rows set gone).map rowN) ∧ Below w.heap.size w w' := by
 have e1 : (w.alloc (.cells #[Value.func (.func 32) #[] #[]] 81)).heap.size = w.heap.size + 1 := by simp
 have om0 := OM.made (w.alloc (.cells #[Value.func (.func 32) #[] #[]] 81)) Tryz.prog 9
 rw [e1] at om0
 have bk0 := (Blk.new w 81 #[Value.func (.func 32) #[] #[]]).alloc (.map #[] 0)
 have b0 : Below w.heap.size w ((w.alloc (.cells #[Value.func (.func 32) #[] #[]] 81)).alloc (.map #[] 0)) := ((Below.refl _ _).alloc (Nat.le_refl _) _).alloc (by simp) _
 clear e1
 have S1 := Lib.hid s1
 have S2 := Lib.hid s2
 have S3 := Lib.hid s3
 have K1 := Lib.hid k1
 have K2 := Lib.hid k2
 have K3 := Lib.hid k3
 have HX := Lib.hid (fun (x : NodeD) (W : World) => keyxN_any x W)
 have HZ := Lib.hid (fun W => zeroN_lit W)
 clear s1 s2 s3 k1 k2 k3
 have hmm := @run_makeMap Tryz.prog
 go_enter Tryz.func31, Tryz.ntmps31
 go_wp2_with fail
 generalize (w.alloc _).alloc _ = W0 at *
 go_loopw [22] (fun i wr => ∃ (k : Nat) (f : List UInt8 → Option NodeD), k ≤ rows.length ∧ i = .int .i64 k ∧ Below w.heap.size w wr ∧ Blk wr w.heap.size 81 #[Value.func (.func 32) #[] #[]] ∧ OM Tryz.prog 9 wr (w.heap.size + 1) k (fun s => (f s).map (fun x : NodeD => Value.agg #[.string x.name, .int .i64 x.room, .string x.zone])) ∧ Hid (IsM NodeD.name f (M1 rows k))) (fun i _ => rows.length - (intOf i).toNat)
 case atStart => exact ⟨0, fun _ => none, Nat.zero_le _, rfl, b0, bk0, om0, (show IsM NodeD.name _ (M1 rows 0) from IsM.start)⟩
 case round =>
  clear b0 bk0 om0
  obtain ⟨k, f, hk, rfl, hbr, bk, om, HI⟩ := hrel
  by_cases hlt : k < rows.length
  ·have hx : rows[k]? = some rows[k] := List.getElem?_eq_getElem hlt
   have hsz := K1.out rows[k] (List.getElem_mem hlt)
   generalize rows[k] = x at *
   obtain ⟨a, rfl, hab, _, hat⟩ := (h1.below hbr).at_ (k := k) (r := rowN x) (by rw [List.getElem?_map, hx]; rfl)
   have I2 := Lib.hid (HI.out.one S1.out hx)
   have bx := Blk.new wr 34 #[.string x.name, .int .i64 x.room, .string x.zone]
   have bk5 := bk.alloc (.cells #[.string x.name, .int .i64 x.room, .string x.zone] 34)
   have c5 := hbr.alloc hbr.size (.cells #[.string x.name, .int .i64 x.room, .string x.zone] 34)
   have om5 := om.below ((Below.refl _ wr).alloc (Nat.le_refl _) (.cells #[.string x.name, .int .i64 x.room, .string x.zone] 34))
   have hgx : wr.heap.size ≠ w.heap.size + 1 := by have := om.lt; omega
   have hsm : x.name.size ≤ maxLen := by unfold maxLen; omega
   have hgk : w.heap.size ≠ w.heap.size + 1 := by omega
   clear hx HI hbr bk om hsz
   go_upto_region 5 with (first | (refine wpList_load_at rfl _ _ rfl (a.add (k * 3)) rfl [Value.string x.name, Value.int .i64 x.room, Value.string x.zone] _ hat Tryz.underlying34 rfl node_size ?_) | (refine wpList_store_new rfl _ _ _ rfl rfl 34 _ #[.string x.name, .int .i64 x.room, .string x.zone] rfl node_size rfl rfl ?_))
   clear hat
   generalize wr.alloc _ = W5 at *
   generalize wr.heap.size = gx at *
   have G0 : GrB W5 (w.heap.size + 1) W5.drew := GrB.start _ _
   refine wp_region_held_drew (S := GrB W5 (w.heap.size + 1)) (by kernel_rfl) G0 (fun hHeld => ?_)
   refine tk 0 (v := ?_) rfl (Or.inl ⟨by rfl, ?_⟩) ?_
   rotate_left
   ·(intro w5 hw5; have q0 := (GrB.blk hw5 bk5 hgk).cell 0; have k0 := (GrB.blk hw5 bx hgx).cell 0; have k1 := (GrB.blk hw5 bx hgx).cell 1; have k2 := (GrB.blk hw5 bx hgx).cell 2; go_simp; (try with_reducible rfl))
   (try simp only [Act.put, ma, mb, mc, md, me, mf])
   refine tk 1 (v := ?_) rfl (Or.inl ⟨by rfl, ?_⟩) ?_
   rotate_left
   ·(intro w5 hw5; have q0 := (GrB.blk hw5 bk5 hgk).cell 0; have k0 := (GrB.blk hw5 bx hgx).cell 0; have k1 := (GrB.blk hw5 bx hgx).cell 1; have k2 := (GrB.blk hw5 bx hgx).cell 2; go_simp; (try with_reducible rfl))
   (try simp only [Act.put, ma, mb, mc, md, me, mf])
   refine tk 2 (v := ?_) rfl (Or.inl ⟨by rfl, ?_⟩) ?_
   rotate_left
   ·(intro w5 hw5; have q0 := (GrB.blk hw5 bk5 hgk).cell 0; have k0 := (GrB.blk hw5 bx hgx).cell 0; have k1 := (GrB.blk hw5 bx hgx).cell 1; have k2 := (GrB.blk hw5 bx hgx).cell 2; go_simp; (try with_reducible rfl))
   (try simp only [Act.put, ma, mb, mc, md, me, mf])
   refine tk 4 (v := ?_) rfl (Or.inl ⟨by rfl, ?_⟩) ?_
   rotate_left
   ·(intro w5 hw5; have q0 := (GrB.blk hw5 bk5 hgk).cell 0; have k0 := (GrB.blk hw5 bx hgx).cell 0; have k1 := (GrB.blk hw5 bx hgx).cell 1; have k2 := (GrB.blk hw5 bx hgx).cell 2; go_simp; (try with_reducible rfl))
   (try simp only [Act.put, ma, mb, mc, md, me, mf])
   refine tr 3 rfl (fun K hK => ?_)
   go_simp
   refine (HX.out x _).mono ?_
   rintro e u1 ⟨rfl, rfl⟩
   have G1 := GrB.more G0 ((Below.refl _ _).alloc (Nat.le_refl _) (.cells #[.string x.name, .int .i64 x.room, .string x.zone] 34))
   have om6 := om5.drew.below ((Below.refl _ _).alloc (Nat.le_refl _) (.cells #[.string x.name, .int .i64 x.room, .string x.zone] 34))
   generalize W5.drew.alloc _ = u1 at *
   refine hK.out _ _ ?_ (fun hHeld => ?_)
   ·exact G1
   clear hK K
   (try simp only [Act.put, ma, mb, mc, md, me, mf])
   obtain ⟨u2, hr2, om7, hg2⟩ := om6.store (t := 110) Tryz.underlying110 Tryz.underlying9 (by unfold maxLen; omega) hsm (Value.agg #[.string x.name, .int .i64 x.room, .string x.zone])
   have G2 := G1.then_ hg2
   refine tr 5 rfl (fun K hK => ?_)
   refine step_map_put rfl 110 _ _ _ rfl rfl rfl rfl hr2 ?_
   refine hK.out _ _ ?_ (fun hHeld => ?_)
   ·exact G2
   clear hK K
   (try simp only [Act.put, ma, mb, mc, md, me, mf])
   refine wpAnyH_done (by kernel_rfl) ?_ _
   have bk7 := GrB.blk G2 bk5 hgk
   have c7 : Below w.heap.size w u2 := c5.grown G2 c5.size (fun k e => by cases e; omega)
   have om8 := OM.put_ (g := (fun x : NodeD => Value.agg #[.string x.name, .int .i64 x.room, .string x.zone])) om7
   clear G0 G1 G2 om5 om6 om7 bk5 c5 bx hr2 hg2
   go_wp2_with fail
   go_roundw
   case rel => exact ⟨k + 1, putX f x.name.data.toList x, by omega, by go_num, c7, bk7, om8, I2.out⟩
   case measure => simp [intOf]; omega
  ·obtain rfl : k = rows.length := by omega
   have I0 := Lib.hid (HI.out.all (gone := gone))
   clear HI
   go_wp2_with fail
   clear hlt
   obtain ⟨wo, rfl⟩ : ∃ wo : World, wo = wr := ⟨_, rfl⟩
   go_loopw [34] (fun i wr => ∃ (k : Nat) (f : List UInt8 → Option NodeD), k ≤ gone.length ∧ i = .int .i64 k ∧ Below w.heap.size w wr ∧ Blk wr w.heap.size 81 #[Value.func (.func 32) #[] #[]] ∧ OM Tryz.prog 9 wr (w.heap.size + 1) rows.length (fun s => (f s).map (fun x : NodeD => Value.agg #[.string x.name, .int .i64 x.room, .string x.zone])) ∧ Hid (IsM NodeD.name f (M2 NodeD.name rows gone k) ∧ ∀ s ∈ gone.take k, ∃ x ∈ rows, x.name = s)) (fun i _ => gone.length - (intOf i).toNat)
   case atStart => exact ⟨0, f, Nat.zero_le _, rfl, hbr, bk, om, (show IsM NodeD.name f (M2 NodeD.name rows gone 0) ∧ _ from ⟨I0.out, fun s hs => by simp at hs⟩)⟩
   case round =>
    clear I0 om bk hbr
    obtain ⟨k, f, hk, rfl, hbr, bk, om, HI⟩ := hrel
    by_cases hlt : k < gone.length
    ·have hx : gone[k]? = some gone[k] := List.getElem?_eq_getElem hlt
     have hsz := K3.out gone[k] (List.getElem_mem hlt)
     generalize gone[k] = s at *
     obtain ⟨a, rfl, hab, _, hat⟩ := (h3.below hbr).at_ (k := k) (r := rowS s) (by rw [List.getElem?_map, hx]; rfl)
     have e1 := at_one hat
     have hsm : s.size ≤ maxLen := by unfold maxLen; omega
     have hlk := om.look (t := 110) Tryz.underlying110 Tryz.underlying9 (HZ.out _) hsm
     clear hat hsz
     cases hf : f s.data.toList with
     | none =>
      have hB := Lib.hid (gone_missing S3.out hx (HI.out.1.at_none hf))
      simp only [hf, Option.map_none, Option.getD_none, Option.isSome_none] at hlk
      have c5 := hbr.alloc hbr.size (.cells #[.string ByteArray.empty, .int .i64 0, .string ByteArray.empty] 34)
      clear hf hx HI
      go_wp2_with (first | (refine wpList_store_new rfl _ _ _ rfl rfl 34 _ #[.string ByteArray.empty, .int .i64 0, .string ByteArray.empty] rfl node_size rfl rfl ?_))
      go_ret2
      have hR : chgR NodeD.name rows set gone = [] := by unfold chgR; rw [hB.out]; rfl
      exact ⟨none, 0, by rw [hR, hB.out]; rfl, by rw [hR]; exact ⟨fun r hr => by simp at hr, World.ownsRow_nil _ _ _ _⟩, c5⟩
     | some x =>
      have I2 := Lib.hid (And.intro (HI.out.1.two hx) (gone_step hx HI.out.2 (HI.out.1.at_some hf)))
      simp only [hf, Option.map_some, Option.getD_some, Option.isSome_some] at hlk
      have c5 := hbr.alloc hbr.size (.cells #[.string x.name, .int .i64 x.room, .string x.zone] 34)
      have bk5 := bk.alloc (.cells #[.string x.name, .int .i64 x.room, .string x.zone] 34)
      obtain ⟨u2, hr2, om7, hg2⟩ := (om.below ((Below.refl _ _).alloc (Nat.le_refl _) (.cells #[.string x.name, .int .i64 x.room, .string x.zone] 34))).drop (t := 110) Tryz.underlying110 Tryz.underlying9 hsm 0
      have om8 := OM.del_ (g := (fun x : NodeD => Value.agg #[.string x.name, .int .i64 x.room, .string x.zone])) om7
      have c7 : Below w.heap.size w u2 := c5.grown hg2 c5.size (fun k e => by cases e; omega)
      have bk7 : Blk u2 w.heap.size 81 #[Value.func (.func 32) #[] #[]] := (hg2.block _ bk5.lt (fun e => by injection e with e; omega)).trans bk5
      clear hf hx HI om7 hg2 c5 bk5
      go_wp2_with (first | (refine wpList_store_new rfl _ _ _ rfl rfl 34 _ #[.string x.name, .int .i64 x.room, .string x.zone] rfl node_size rfl rfl ?_))
      go_roundw
      case rel => exact ⟨k + 1, delX f s.data.toList, by omega, by go_num, c7, bk7, om8, I2.out⟩
      case measure => simp [intOf]; omega
    ·obtain rfl : k = gone.length := by omega
     have hB := Lib.hid (gone_there HI.out.2)
     have I0 := Lib.hid (HI.out.1.left (set := set))
     clear HI
     go_wp2_with fail
     clear hlt
     obtain ⟨wp, rfl⟩ : ∃ wp : World, wp = wr := ⟨_, rfl⟩
     go_loopw [51] (fun i wr => ∃ (k : Nat) (f : List UInt8 → Option NodeD), k ≤ set.length ∧ i = .int .i64 k ∧ Below w.heap.size w wr ∧ Blk wr w.heap.size 81 #[Value.func (.func 32) #[] #[]] ∧ OM Tryz.prog 9 wr (w.heap.size + 1) (rows.length + k) (fun s => (f s).map (fun x : NodeD => Value.agg #[.string x.name, .int .i64 x.room, .string x.zone])) ∧ Hid (IsM NodeD.name f (M3 NodeD.name rows set gone k))) (fun i _ => set.length - (intOf i).toNat)
     case atStart => exact ⟨0, f, Nat.zero_le _, rfl, hbr, bk, om, I0.out⟩
     case round =>
      clear I0 om bk hbr
      obtain ⟨k, f, hk, rfl, hbr, bk, om, HI⟩ := hrel
      by_cases hlt : k < set.length
      ·have hx : set[k]? = some set[k] := List.getElem?_eq_getElem hlt
       have hsz := K2.out set[k] (List.getElem_mem hlt)
       generalize set[k] = x at *
       obtain ⟨a, rfl, hab, _, hat⟩ := (h2.below hbr).at_ (k := k) (r := rowN x) (by rw [List.getElem?_map, hx]; rfl)
       have I2 := Lib.hid (HI.out.three S2.out hx)
       have bx := Blk.new wr 34 #[.string x.name, .int .i64 x.room, .string x.zone]
       have bk5 := bk.alloc (.cells #[.string x.name, .int .i64 x.room, .string x.zone] 34)
       have c5 := hbr.alloc hbr.size (.cells #[.string x.name, .int .i64 x.room, .string x.zone] 34)
       have om5 := om.below ((Below.refl _ wr).alloc (Nat.le_refl _) (.cells #[.string x.name, .int .i64 x.room, .string x.zone] 34))
       have hgx : wr.heap.size ≠ w.heap.size + 1 := by have := om.lt; omega
       have hsm : x.name.size ≤ maxLen := by unfold maxLen; omega
       have hgk : w.heap.size ≠ w.heap.size + 1 := by omega
       clear hx HI hbr bk om hsz
       go_upto_region 18 with (first | (refine wpList_load_at rfl _ _ rfl (a.add (k * 3)) rfl [Value.string x.name, Value.int .i64 x.room, Value.string x.zone] _ hat Tryz.underlying34 rfl node_size ?_) | (refine wpList_store_new rfl _ _ _ rfl rfl 34 _ #[.string x.name, .int .i64 x.room, .string x.zone] rfl node_size rfl rfl ?_))
       clear hat
       generalize wr.alloc _ = W5 at *
       generalize wr.heap.size = gx at *
       have G0 : GrB W5 (w.heap.size + 1) W5.drew := GrB.start _ _
       refine wp_region_held_drew (S := GrB W5 (w.heap.size + 1)) (by kernel_rfl) G0 (fun hHeld => ?_)
       refine tk 0 (v := ?_) rfl (Or.inl ⟨by rfl, ?_⟩) ?_
       rotate_left
       ·(intro w5 hw5; have q0 := (GrB.blk hw5 bk5 hgk).cell 0; have k0 := (GrB.blk hw5 bx hgx).cell 0; have k1 := (GrB.blk hw5 bx hgx).cell 1; have k2 := (GrB.blk hw5 bx hgx).cell 2; go_simp; (try with_reducible rfl))
       (try simp only [Act.put, ma, mb, mc, md, me, mf])
       refine tk 1 (v := ?_) rfl (Or.inl ⟨by rfl, ?_⟩) ?_
       rotate_left
       ·(intro w5 hw5; have q0 := (GrB.blk hw5 bk5 hgk).cell 0; have k0 := (GrB.blk hw5 bx hgx).cell 0; have k1 := (GrB.blk hw5 bx hgx).cell 1; have k2 := (GrB.blk hw5 bx hgx).cell 2; go_simp; (try with_reducible rfl))
       (try simp only [Act.put, ma, mb, mc, md, me, mf])
       refine tk 2 (v := ?_) rfl (Or.inl ⟨by rfl, ?_⟩) ?_
       rotate_left
       ·(intro w5 hw5; have q0 := (GrB.blk hw5 bk5 hgk).cell 0; have k0 := (GrB.blk hw5 bx hgx).cell 0; have k1 := (GrB.blk hw5 bx hgx).cell 1; have k2 := (GrB.blk hw5 bx hgx).cell 2; go_simp; (try with_reducible rfl))
       (try simp only [Act.put, ma, mb, mc, md, me, mf])
       refine tk 4 (v := ?_) rfl (Or.inl ⟨by rfl, ?_⟩) ?_
       rotate_left
       ·(intro w5 hw5; have q0 := (GrB.blk hw5 bk5 hgk).cell 0; have k0 := (GrB.blk hw5 bx hgx).cell 0; have k1 := (GrB.blk hw5 bx hgx).cell 1; have k2 := (GrB.blk hw5 bx hgx).cell 2; go_simp; (try with_reducible rfl))
       (try simp only [Act.put, ma, mb, mc, md, me, mf])
       refine tr 3 rfl (fun K hK => ?_)
       go_simp
       refine (HX.out x _).mono ?_
       rintro e u1 ⟨rfl, rfl⟩
       have G1 := GrB.more G0 ((Below.refl _ _).alloc (Nat.le_refl _) (.cells #[.string x.name, .int .i64 x.room, .string x.zone] 34))
       have om6 := om5.drew.below ((Below.refl _ _).alloc (Nat.le_refl _) (.cells #[.string x.name, .int .i64 x.room, .string x.zone] 34))
       generalize W5.drew.alloc _ = u1 at *
       refine hK.out _ _ ?_ (fun hHeld => ?_)
       ·exact G1
       clear hK K
       (try simp only [Act.put, ma, mb, mc, md, me, mf])
       obtain ⟨u2, hr2, om7, hg2⟩ := om6.store (t := 110) Tryz.underlying110 Tryz.underlying9 (by unfold maxLen; omega) hsm (Value.agg #[.string x.name, .int .i64 x.room, .string x.zone])
       have G2 := G1.then_ hg2
       refine tr 5 rfl (fun K hK => ?_)
       refine step_map_put rfl 110 _ _ _ rfl rfl rfl rfl hr2 ?_
       refine hK.out _ _ ?_ (fun hHeld => ?_)
       ·exact G2
       clear hK K
       (try simp only [Act.put, ma, mb, mc, md, me, mf])
       refine wpAnyH_done (by kernel_rfl) ?_ _
       have bk7 := GrB.blk G2 bk5 hgk
       have c7 : Below w.heap.size w u2 := c5.grown G2 c5.size (fun k e => by cases e; omega)
       have om8 := OM.put_ (g := (fun x : NodeD => Value.agg #[.string x.name, .int .i64 x.room, .string x.zone])) om7
       clear G0 G1 G2 om5 om6 om7 bk5 c5 bx hr2 hg2
       go_wp2_with fail
       go_roundw
       case rel => exact ⟨k + 1, putX f x.name.data.toList x, by omega, by go_num, c7, bk7, om8, I2.out⟩
       case measure => simp [intOf]; omega
      ·obtain rfl : k = set.length := by omega
       have HD := Lib.hid (fun ss ts ha hp hw => chg_done (ss := ss) (ts := ts) S1.out S2.out HI.out ha hp hw)
       clear HI
       go_upto_region 20 with fail
       have hml : w.heap.size + 1 < wr.heap.size := om.lt
       have hbx : (wr.alloc (.cells #[.map (some (w.heap.size + 1))] 110)).cell? ⟨wr.heap.size, 0, none⟩ = some (.map (some (w.heap.size + 1))) := (Blk.new wr 110 #[.map (some (w.heap.size + 1))]).cell 0
       have hb6 : Below wr.heap.size wr (wr.alloc (.cells #[.map (some (w.heap.size + 1))] 110)) := (Below.refl _ _).alloc (Nat.le_refl _) _
       have om6 := om.below hb6
       have bk6 := bk.below hb6 bk.lt
       have c6 := hbr.trans (hb6.mono hbr.size)
       have hs6 : (wr.alloc (.cells #[.map (some (w.heap.size + 1))] 110)).heap.size = wr.heap.size + 1 := by simp
       have HV := Lib.hid (valuesN_any (some (w.heap.size + 1)) wr)
       have HS := Lib.hid (sortedN_any w.heap.size wr.heap.size (w.heap.size + 1) (rows.length + set.length) f _ (bk6.cell 0) (by rw [hs6]; omega) (by rw [hs6]; omega) hbx om6 (by omega))
       clear hbx om6 bk6 hb6 om bk hbr
       go_wp2_with fail
       refine HV.out.mono ?_
       rintro e w6 ⟨rfl, rfl⟩
       go_wp2_with fail
       refine HS.out.mono ?_
       rintro e w7 ⟨v, ss, ts, rfl, hA, hp, hw, hrow, hb7⟩
       obtain rfl := HD.out ss ts hA hp hw
       have c7 := c6.trans (hb7.mono c6.size)
       obtain ⟨p, c, rfl, hO⟩ := ownR_flat rowN_len hrow
       have hR : chgR NodeD.name rows set gone = chgL NodeD.name rows set gone := by unfold chgR; rw [hB.out]; rfl
       have hO2 := OwnR.lower hO c6.size
       clear hA hp hw hrow hO hb7 HS HD
       go_wp2_with fail
       go_ret2
       exact ⟨p, c, by rw [hR, hB.out]; rfl, by rw [hR]; exact hO2, c7⟩
open Go.RowKit
theorem changedL_any (rows set : List LeaseD) (gone : List ByteArray) (p1 p2 p3 : Option Addr) (c1 c2 c3 : Nat) (w : World) (h1 : Elts w w.heap.size 3 p1 (rows.map rowL)) (h2 : Elts w w.heap.size 3 p2 (set.map rowL)) (h3 : Elts w w.heap.size 1 p3 (gone.map rowS))
  (l1 : rows.length ≤ 1000) (l2 : set.length ≤ 1000) (l3 : gone.length ≤ 1000) (s1 : Sorted LeaseD.job rows) (s2 : Sorted LeaseD.job set) (s3 : Sorted (fun s : ByteArray => s) gone)
  (k1 : ∀ x ∈ rows, x.job.size ≤ 16) (k2 : ∀ x ∈ set, x.job.size ≤ 16) (k3 : ∀ s ∈ gone, s.size ≤ 16) :
  Calls Tryz.prog 33 #[.slice p1 rows.length c1, .slice p2 set.length c2, .slice p3 gone.length c3, .func (.func 34) #[] #[]] w fun e w' =>
   ∃ p c, e = .returned (.tuple #[.slice p (chgR LeaseD.job rows set gone).length c, .bool (chgB LeaseD.job rows gone)]) ∧ OwnR w' w.heap.size 37 3 p c ((chgR LeaseD.job rows set gone).map rowL) ∧ Below w.heap.size w w' := by
 have e1 : (w.alloc (.cells #[Value.func (.func 34) #[] #[]] 84)).heap.size = w.heap.size + 1 := by simp
 have om0 := OM.made (w.alloc (.cells #[Value.func (.func 34) #[] #[]] 84)) Tryz.prog 9
 rw [e1] at om0
 have bk0 := (Blk.new w 84 #[Value.func (.func 34) #[] #[]]).alloc (.map #[] 0)
 have b0 : Below w.heap.size w ((w.alloc (.cells #[Value.func (.func 34) #[] #[]] 84)).alloc (.map #[] 0)) := ((Below.refl _ _).alloc (Nat.le_refl _) _).alloc (by simp) _
 clear e1
 have S1 := Lib.hid s1
 have S2 := Lib.hid s2
 have S3 := Lib.hid s3
 have K1 := Lib.hid k1
 have K2 := Lib.hid k2
 have K3 := Lib.hid k3
 have HX := Lib.hid (fun (x : LeaseD) (W : World) => keyxL_any x W)
 have HZ := Lib.hid (fun W => zeroL_lit W)
 clear s1 s2 s3 k1 k2 k3
 have hmm := @run_makeMap Tryz.prog
 go_enter Tryz.func33, Tryz.ntmps33
 go_wp2_with fail
 generalize (w.alloc _).alloc _ = W0 at *
 go_loopw [22] (fun i wr => ∃ (k : Nat) (f : List UInt8 → Option LeaseD), k ≤ rows.length ∧ i = .int .i64 k ∧ Below w.heap.size w wr ∧ Blk wr w.heap.size 84 #[Value.func (.func 34) #[] #[]] ∧ OM Tryz.prog 9 wr (w.heap.size + 1) k (fun s => (f s).map (fun x : LeaseD => Value.agg #[.string x.job, .string x.node, .int .i64 x.till])) ∧ Hid (IsM LeaseD.job f (M1 rows k))) (fun i _ => rows.length - (intOf i).toNat)
 case atStart => exact ⟨0, fun _ => none, Nat.zero_le _, rfl, b0, bk0, om0, (show IsM LeaseD.job _ (M1 rows 0) from IsM.start)⟩
 case round =>
  clear b0 bk0 om0
  obtain ⟨k, f, hk, rfl, hbr, bk, om, HI⟩ := hrel
  by_cases hlt : k < rows.length
  ·have hx : rows[k]? = some rows[k] := List.getElem?_eq_getElem hlt
   have hsz := K1.out rows[k] (List.getElem_mem hlt)
   generalize rows[k] = x at *
   obtain ⟨a, rfl, hab, _, hat⟩ := (h1.below hbr).at_ (k := k) (r := rowL x) (by rw [List.getElem?_map, hx]; rfl)
   have I2 := Lib.hid (HI.out.one S1.out hx)
   have bx := Blk.new wr 37 #[.string x.job, .string x.node, .int .i64 x.till]
   have bk5 := bk.alloc (.cells #[.string x.job, .string x.node, .int .i64 x.till] 37)
   have c5 := hbr.alloc hbr.size (.cells #[.string x.job, .string x.node, .int .i64 x.till] 37)
   have om5 := om.below ((Below.refl _ wr).alloc (Nat.le_refl _) (.cells #[.string x.job, .string x.node, .int .i64 x.till] 37))
   have hgx : wr.heap.size ≠ w.heap.size + 1 := by have := om.lt; omega
   have hsm : x.job.size ≤ maxLen := by unfold maxLen; omega
   have hgk : w.heap.size ≠ w.heap.size + 1 := by omega
   clear hx HI hbr bk om hsz
   go_upto_region 5 with (first | (refine wpList_load_at rfl _ _ rfl (a.add (k * 3)) rfl [Value.string x.job, Value.string x.node, Value.int .i64 x.till] _ hat Tryz.underlying37 rfl lease_size ?_) | (refine wpList_store_new rfl _ _ _ rfl rfl 37 _ #[.string x.job, .string x.node, .int .i64 x.till] rfl lease_size rfl rfl ?_))
   clear hat
   generalize wr.alloc _ = W5 at *
   generalize wr.heap.size = gx at *
   have G0 : GrB W5 (w.heap.size + 1) W5.drew := GrB.start _ _
   refine wp_region_held_drew (S := GrB W5 (w.heap.size + 1)) (by kernel_rfl) G0 (fun hHeld => ?_)
   refine tk 0 (v := ?_) rfl (Or.inl ⟨by rfl, ?_⟩) ?_
   rotate_left
   ·(intro w5 hw5; have q0 := (GrB.blk hw5 bk5 hgk).cell 0; have k0 := (GrB.blk hw5 bx hgx).cell 0; have k1 := (GrB.blk hw5 bx hgx).cell 1; have k2 := (GrB.blk hw5 bx hgx).cell 2; go_simp; (try with_reducible rfl))
   (try simp only [Act.put, ma, mb, mc, md, me, mf])
   refine tk 1 (v := ?_) rfl (Or.inl ⟨by rfl, ?_⟩) ?_
   rotate_left
   ·(intro w5 hw5; have q0 := (GrB.blk hw5 bk5 hgk).cell 0; have k0 := (GrB.blk hw5 bx hgx).cell 0; have k1 := (GrB.blk hw5 bx hgx).cell 1; have k2 := (GrB.blk hw5 bx hgx).cell 2; go_simp; (try with_reducible rfl))
   (try simp only [Act.put, ma, mb, mc, md, me, mf])
   refine tk 2 (v := ?_) rfl (Or.inl ⟨by rfl, ?_⟩) ?_
   rotate_left
   ·(intro w5 hw5; have q0 := (GrB.blk hw5 bk5 hgk).cell 0; have k0 := (GrB.blk hw5 bx hgx).cell 0; have k1 := (GrB.blk hw5 bx hgx).cell 1; have k2 := (GrB.blk hw5 bx hgx).cell 2; go_simp; (try with_reducible rfl))
   (try simp only [Act.put, ma, mb, mc, md, me, mf])
   refine tk 4 (v := ?_) rfl (Or.inl ⟨by rfl, ?_⟩) ?_
   rotate_left
   ·(intro w5 hw5; have q0 := (GrB.blk hw5 bk5 hgk).cell 0; have k0 := (GrB.blk hw5 bx hgx).cell 0; have k1 := (GrB.blk hw5 bx hgx).cell 1; have k2 := (GrB.blk hw5 bx hgx).cell 2; go_simp; (try with_reducible rfl))
   (try simp only [Act.put, ma, mb, mc, md, me, mf])
   refine tr 3 rfl (fun K hK => ?_)
   go_simp
   refine (HX.out x _).mono ?_
   rintro e u1 ⟨rfl, rfl⟩
   have G1 := GrB.more G0 ((Below.refl _ _).alloc (Nat.le_refl _) (.cells #[.string x.job, .string x.node, .int .i64 x.till] 37))
   have om6 := om5.drew.below ((Below.refl _ _).alloc (Nat.le_refl _) (.cells #[.string x.job, .string x.node, .int .i64 x.till] 37))
   generalize W5.drew.alloc _ = u1 at *
   refine hK.out _ _ ?_ (fun hHeld => ?_)
   ·exact G1
   clear hK K
   (try simp only [Act.put, ma, mb, mc, md, me, mf])
   obtain ⟨u2, hr2, om7, hg2⟩ := om6.store (t := 132) Tryz.underlying132 Tryz.underlying9 (by unfold maxLen; omega) hsm (Value.agg #[.string x.job, .string x.node, .int .i64 x.till])
   have G2 := G1.then_ hg2
   refine tr 5 rfl (fun K hK => ?_)
   refine step_map_put rfl 132 _ _ _ rfl rfl rfl rfl hr2 ?_
   refine hK.out _ _ ?_ (fun hHeld => ?_)
   ·exact G2
   clear hK K
   (try simp only [Act.put, ma, mb, mc, md, me, mf])
   refine wpAnyH_done (by kernel_rfl) ?_ _
   have bk7 := GrB.blk G2 bk5 hgk
   have c7 : Below w.heap.size w u2 := c5.grown G2 c5.size (fun k e => by cases e; omega)
   have om8 := OM.put_ (g := (fun x : LeaseD => Value.agg #[.string x.job, .string x.node, .int .i64 x.till])) om7
   clear G0 G1 G2 om5 om6 om7 bk5 c5 bx hr2 hg2
   go_wp2_with fail
   go_roundw
   case rel => exact ⟨k + 1, putX f x.job.data.toList x, by omega, by go_num, c7, bk7, om8, I2.out⟩
   case measure => simp [intOf]; omega
  ·obtain rfl : k = rows.length := by omega
   have I0 := Lib.hid (HI.out.all (gone := gone))
   clear HI
   go_wp2_with fail
   clear hlt
   obtain ⟨wo, rfl⟩ : ∃ wo : World, wo = wr := ⟨_, rfl⟩
   go_loopw [34] (fun i wr => ∃ (k : Nat) (f : List UInt8 → Option LeaseD), k ≤ gone.length ∧ i = .int .i64 k ∧ Below w.heap.size w wr ∧ Blk wr w.heap.size 84 #[Value.func (.func 34) #[] #[]] ∧ OM Tryz.prog 9 wr (w.heap.size + 1) rows.length (fun s => (f s).map (fun x : LeaseD => Value.agg #[.string x.job, .string x.node, .int .i64 x.till])) ∧ Hid (IsM LeaseD.job f (M2 LeaseD.job rows gone k) ∧ ∀ s ∈ gone.take k, ∃ x ∈ rows, x.job = s)) (fun i _ => gone.length - (intOf i).toNat)
   case atStart => exact ⟨0, f, Nat.zero_le _, rfl, hbr, bk, om, (show IsM LeaseD.job f (M2 LeaseD.job rows gone 0) ∧ _ from ⟨I0.out, fun s hs => by simp at hs⟩)⟩
   case round =>
    clear I0 om bk hbr
    obtain ⟨k, f, hk, rfl, hbr, bk, om, HI⟩ := hrel
    by_cases hlt : k < gone.length
    ·have hx : gone[k]? = some gone[k] := List.getElem?_eq_getElem hlt
     have hsz := K3.out gone[k] (List.getElem_mem hlt)
     generalize gone[k] = s at *
     obtain ⟨a, rfl, hab, _, hat⟩ := (h3.below hbr).at_ (k := k) (r := rowS s) (by rw [List.getElem?_map, hx]; rfl)
     have e1 := at_one hat
     have hsm : s.size ≤ maxLen := by unfold maxLen; omega
     have hlk := om.look (t := 132) Tryz.underlying132 Tryz.underlying9 (HZ.out _) hsm
     clear hat hsz
     cases hf : f s.data.toList with
     | none =>
      have hB := Lib.hid (gone_missing S3.out hx (HI.out.1.at_none hf))
      simp only [hf, Option.map_none, Option.getD_none, Option.isSome_none] at hlk
      have c5 := hbr.alloc hbr.size (.cells #[.string ByteArray.empty, .string ByteArray.empty, .int .i64 0] 37)
      clear hf hx HI
      go_wp2_with (first | (refine wpList_store_new rfl _ _ _ rfl rfl 37 _ #[.string ByteArray.empty, .string ByteArray.empty, .int .i64 0] rfl lease_size rfl rfl ?_))
      go_ret2
      have hR : chgR LeaseD.job rows set gone = [] := by unfold chgR; rw [hB.out]; rfl
      exact ⟨none, 0, by rw [hR, hB.out]; rfl, by rw [hR]; exact ⟨fun r hr => by simp at hr, World.ownsRow_nil _ _ _ _⟩, c5⟩
     | some x =>
      have I2 := Lib.hid (And.intro (HI.out.1.two hx) (gone_step hx HI.out.2 (HI.out.1.at_some hf)))
      simp only [hf, Option.map_some, Option.getD_some, Option.isSome_some] at hlk
      have c5 := hbr.alloc hbr.size (.cells #[.string x.job, .string x.node, .int .i64 x.till] 37)
      have bk5 := bk.alloc (.cells #[.string x.job, .string x.node, .int .i64 x.till] 37)
      obtain ⟨u2, hr2, om7, hg2⟩ := (om.below ((Below.refl _ _).alloc (Nat.le_refl _) (.cells #[.string x.job, .string x.node, .int .i64 x.till] 37))).drop (t := 132) Tryz.underlying132 Tryz.underlying9 hsm 0
      have om8 := OM.del_ (g := (fun x : LeaseD => Value.agg #[.string x.job, .string x.node, .int .i64 x.till])) om7
      have c7 : Below w.heap.size w u2 := c5.grown hg2 c5.size (fun k e => by cases e; omega)
      have bk7 : Blk u2 w.heap.size 84 #[Value.func (.func 34) #[] #[]] := (hg2.block _ bk5.lt (fun e => by injection e with e; omega)).trans bk5
      clear hf hx HI om7 hg2 c5 bk5
      go_wp2_with (first | (refine wpList_store_new rfl _ _ _ rfl rfl 37 _ #[.string x.job, .string x.node, .int .i64 x.till] rfl lease_size rfl rfl ?_))
      go_roundw
      case rel => exact ⟨k + 1, delX f s.data.toList, by omega, by go_num, c7, bk7, om8, I2.out⟩
      case measure => simp [intOf]; omega
    ·obtain rfl : k = gone.length := by omega
     have hB := Lib.hid (gone_there HI.out.2)
     have I0 := Lib.hid (HI.out.1.left (set := set))
     clear HI
     go_wp2_with fail
     clear hlt
     obtain ⟨wp, rfl⟩ : ∃ wp : World, wp = wr := ⟨_, rfl⟩
     go_loopw [51] (fun i wr => ∃ (k : Nat) (f : List UInt8 → Option LeaseD), k ≤ set.length ∧ i = .int .i64 k ∧ Below w.heap.size w wr ∧ Blk wr w.heap.size 84 #[Value.func (.func 34) #[] #[]] ∧ OM Tryz.prog 9 wr (w.heap.size + 1) (rows.length + k) (fun s => (f s).map (fun x : LeaseD => Value.agg #[.string x.job, .string x.node, .int .i64 x.till])) ∧ Hid (IsM LeaseD.job f (M3 LeaseD.job rows set gone k))) (fun i _ => set.length - (intOf i).toNat)
     case atStart => exact ⟨0, f, Nat.zero_le _, rfl, hbr, bk, om, I0.out⟩
     case round =>
      clear I0 om bk hbr
      obtain ⟨k, f, hk, rfl, hbr, bk, om, HI⟩ := hrel
      by_cases hlt : k < set.length
      ·have hx : set[k]? = some set[k] := List.getElem?_eq_getElem hlt
       have hsz := K2.out set[k] (List.getElem_mem hlt)
       generalize set[k] = x at *
       obtain ⟨a, rfl, hab, _, hat⟩ := (h2.below hbr).at_ (k := k) (r := rowL x) (by rw [List.getElem?_map, hx]; rfl)
       have I2 := Lib.hid (HI.out.three S2.out hx)
       have bx := Blk.new wr 37 #[.string x.job, .string x.node, .int .i64 x.till]
       have bk5 := bk.alloc (.cells #[.string x.job, .string x.node, .int .i64 x.till] 37)
       have c5 := hbr.alloc hbr.size (.cells #[.string x.job, .string x.node, .int .i64 x.till] 37)
       have om5 := om.below ((Below.refl _ wr).alloc (Nat.le_refl _) (.cells #[.string x.job, .string x.node, .int .i64 x.till] 37))
       have hgx : wr.heap.size ≠ w.heap.size + 1 := by have := om.lt; omega
       have hsm : x.job.size ≤ maxLen := by unfold maxLen; omega
       have hgk : w.heap.size ≠ w.heap.size + 1 := by omega
       clear hx HI hbr bk om hsz
       go_upto_region 18 with (first | (refine wpList_load_at rfl _ _ rfl (a.add (k * 3)) rfl [Value.string x.job, Value.string x.node, Value.int .i64 x.till] _ hat Tryz.underlying37 rfl lease_size ?_) | (refine wpList_store_new rfl _ _ _ rfl rfl 37 _ #[.string x.job, .string x.node, .int .i64 x.till] rfl lease_size rfl rfl ?_))
       clear hat
       generalize wr.alloc _ = W5 at *
       generalize wr.heap.size = gx at *
       have G0 : GrB W5 (w.heap.size + 1) W5.drew := GrB.start _ _
       refine wp_region_held_drew (S := GrB W5 (w.heap.size + 1)) (by kernel_rfl) G0 (fun hHeld => ?_)
       refine tk 0 (v := ?_) rfl (Or.inl ⟨by rfl, ?_⟩) ?_
       rotate_left
       ·(intro w5 hw5; have q0 := (GrB.blk hw5 bk5 hgk).cell 0; have k0 := (GrB.blk hw5 bx hgx).cell 0; have k1 := (GrB.blk hw5 bx hgx).cell 1; have k2 := (GrB.blk hw5 bx hgx).cell 2; go_simp; (try with_reducible rfl))
       (try simp only [Act.put, ma, mb, mc, md, me, mf])
       refine tk 1 (v := ?_) rfl (Or.inl ⟨by rfl, ?_⟩) ?_
       rotate_left
       ·(intro w5 hw5; have q0 := (GrB.blk hw5 bk5 hgk).cell 0; have k0 := (GrB.blk hw5 bx hgx).cell 0; have k1 := (GrB.blk hw5 bx hgx).cell 1; have k2 := (GrB.blk hw5 bx hgx).cell 2; go_simp; (try with_reducible rfl))
       (try simp only [Act.put, ma, mb, mc, md, me, mf])
       refine tk 2 (v := ?_) rfl (Or.inl ⟨by rfl, ?_⟩) ?_
       rotate_left
       ·(intro w5 hw5; have q0 := (GrB.blk hw5 bk5 hgk).cell 0; have k0 := (GrB.blk hw5 bx hgx).cell 0; have k1 := (GrB.blk hw5 bx hgx).cell 1; have k2 := (GrB.blk hw5 bx hgx).cell 2; go_simp; (try with_reducible rfl))
       (try simp only [Act.put, ma, mb, mc, md, me, mf])
       refine tk 4 (v := ?_) rfl (Or.inl ⟨by rfl, ?_⟩) ?_
       rotate_left
       ·(intro w5 hw5; have q0 := (GrB.blk hw5 bk5 hgk).cell 0; have k0 := (GrB.blk hw5 bx hgx).cell 0; have k1 := (GrB.blk hw5 bx hgx).cell 1; have k2 := (GrB.blk hw5 bx hgx).cell 2; go_simp; (try with_reducible rfl))
       (try simp only [Act.put, ma, mb, mc, md, me, mf])
       refine tr 3 rfl (fun K hK => ?_)
       go_simp
       refine (HX.out x _).mono ?_
       rintro e u1 ⟨rfl, rfl⟩
       have G1 := GrB.more G0 ((Below.refl _ _).alloc (Nat.le_refl _) (.cells #[.string x.job, .string x.node, .int .i64 x.till] 37))
       have om6 := om5.drew.below ((Below.refl _ _).alloc (Nat.le_refl _) (.cells #[.string x.job, .string x.node, .int .i64 x.till] 37))
       generalize W5.drew.alloc _ = u1 at *
       refine hK.out _ _ ?_ (fun hHeld => ?_)
       ·exact G1
       clear hK K
       (try simp only [Act.put, ma, mb, mc, md, me, mf])
       obtain ⟨u2, hr2, om7, hg2⟩ := om6.store (t := 132) Tryz.underlying132 Tryz.underlying9 (by unfold maxLen; omega) hsm (Value.agg #[.string x.job, .string x.node, .int .i64 x.till])
       have G2 := G1.then_ hg2
       refine tr 5 rfl (fun K hK => ?_)
       refine step_map_put rfl 132 _ _ _ rfl rfl rfl rfl hr2 ?_
       refine hK.out _ _ ?_ (fun hHeld => ?_)
       ·exact G2
       clear hK K
       (try simp only [Act.put, ma, mb, mc, md, me, mf])
       refine wpAnyH_done (by kernel_rfl) ?_ _
       have bk7 := GrB.blk G2 bk5 hgk
       have c7 : Below w.heap.size w u2 := c5.grown G2 c5.size (fun k e => by cases e; omega)
       have om8 := OM.put_ (g := (fun x : LeaseD => Value.agg #[.string x.job, .string x.node, .int .i64 x.till])) om7
       clear G0 G1 G2 om5 om6 om7 bk5 c5 bx hr2 hg2
       go_wp2_with fail
       go_roundw
       case rel => exact ⟨k + 1, putX f x.job.data.toList x, by omega, by go_num, c7, bk7, om8, I2.out⟩
       case measure => simp [intOf]; omega
      ·obtain rfl : k = set.length := by omega
       have HD := Lib.hid (fun ss ts ha hp hw => chg_done (ss := ss) (ts := ts) S1.out S2.out HI.out ha hp hw)
       clear HI
       go_upto_region 20 with fail
       have hml : w.heap.size + 1 < wr.heap.size := om.lt
       have hbx : (wr.alloc (.cells #[.map (some (w.heap.size + 1))] 132)).cell? ⟨wr.heap.size, 0, none⟩ = some (.map (some (w.heap.size + 1))) := (Blk.new wr 132 #[.map (some (w.heap.size + 1))]).cell 0
       have hb6 : Below wr.heap.size wr (wr.alloc (.cells #[.map (some (w.heap.size + 1))] 132)) := (Below.refl _ _).alloc (Nat.le_refl _) _
       have om6 := om.below hb6
       have bk6 := bk.below hb6 bk.lt
       have c6 := hbr.trans (hb6.mono hbr.size)
       have hs6 : (wr.alloc (.cells #[.map (some (w.heap.size + 1))] 132)).heap.size = wr.heap.size + 1 := by simp
       have HV := Lib.hid (valuesL_any (some (w.heap.size + 1)) wr)
       have HS := Lib.hid (sortedL_any w.heap.size wr.heap.size (w.heap.size + 1) (rows.length + set.length) f _ (bk6.cell 0) (by rw [hs6]; omega) (by rw [hs6]; omega) hbx om6 (by omega))
       clear hbx om6 bk6 hb6 om bk hbr
       go_wp2_with fail
       refine HV.out.mono ?_
       rintro e w6 ⟨rfl, rfl⟩
       go_wp2_with fail
       refine HS.out.mono ?_
       rintro e w7 ⟨v, ss, ts, rfl, hA, hp, hw, hrow, hb7⟩
       obtain rfl := HD.out ss ts hA hp hw
       have c7 := c6.trans (hb7.mono c6.size)
       obtain ⟨p, c, rfl, hO⟩ := ownR_flat rowL_len hrow
       have hR : chgR LeaseD.job rows set gone = chgL LeaseD.job rows set gone := by unfold chgR; rw [hB.out]; rfl
       have hO2 := OwnR.lower hO c6.size
       clear hA hp hw hrow hO hb7 HS HD
       go_wp2_with fail
       go_ret2
       exact ⟨p, c, by rw [hR, hB.out]; rfl, by rw [hR]; exact hO2, c7⟩
end Go.Proofs.YtaioadbenigdpaaGreatDoor
