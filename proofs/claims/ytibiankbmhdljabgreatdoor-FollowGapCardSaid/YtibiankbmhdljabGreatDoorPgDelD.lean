/-
  Several texts in one: DelC, DelD, PutJh, PutNh, PutS, DelEnch.
-/
import Derived.LoopN
import Derived.Test.YtibiankbmhdljabGreatDoorPgWireB
import Derived.Test.YtibiankbmhdljabGreatDoorPgDelC
set_option linter.all false
set_option maxHeartbeats 16000000
set_option maxRecDepth 100000
namespace Go.Proofs.YtibiankbmhdljabGreatDoor
open Go.Proofs.Tryz
def encT (s : ByteArray) : List UInt8 := textB s.data.toList
def encD (d : uq1) : List UInt8 :=
 putN d.frm.toNat ++ (putN (d.upto - d.frm).toNat ++ (rowsB (encJ 3) d.jobs ++ (rowsB (encN 3) d.nodes ++ (rowsB encL d.leases ++ (rowsB encT d.gj ++ (rowsB encT d.gn ++ rowsB encT d.gl))))))
def okSs (n : Nat) (l : List ByteArray) : Prop := l.length <= n ∧ ∀ s ∈ l, okTx s.data.toList
def okD (d : uq1) : Prop :=
 okNb d.frm ∧ okNb (d.upto - d.frm) ∧ (d.jobs.length <= 40 ∧ ∀ x ∈ d.jobs, okJb 3 x) ∧ (d.nodes.length <= 20 ∧ ∀ x ∈ d.nodes, okNd 3 x) ∧ (d.leases.length <= 40 ∧ ∀ x ∈ d.leases, okLs x) ∧ okSs 40 d.gj ∧ okSs 20 d.gn ∧ okSs 40 d.gl
abbrev DT8 := Int × Int × List JobD × List NodeD × List uqf × List ByteArray × List ByteArray × List ByteArray
def toD (x : DT8) : uq1 := ⟨x.1, x.1 + x.2.1, x.2.2.1, x.2.2.2.1, x.2.2.2.2.1, x.2.2.2.2.2.1, x.2.2.2.2.2.2.1, x.2.2.2.2.2.2.2⟩
def pD8 : List UInt8 -> Res DT8 :=
 pSeq pInt fun _ => pSeq pInt fun _ => pSeq (pRows 40 (pJob 3)) fun _ => pSeq (pRows 20 (pNode 3)) fun _ => pSeq (pRows 40 ujx) fun _ => pSeq (pRows 40 pStr) fun _ => pSeq (pRows 20 pStr) fun _ => pRows 40 pStr
def vql (l : List UInt8) : Res uq1 := pMap toD pD8 l
theorem uks : PP vql encD okD :=
 PP.map (enc' := encD) (D' := okD) toD (fun d => (d.frm, d.upto - d.frm, d.jobs, d.nodes, d.leases, d.gj, d.gn, d.gl))
  (ux1.seq fun _ _ => ux1.seq fun _ _ => ((uj9 3).rows 40 (by decide)).seq fun _ _ => ((uz3 3).rows 20 (by decide)).seq fun _ _ => (ujj.rows 40 (by decide)).seq fun _ _ => (ux7.rows 40 (by decide)).seq fun _ _ => (ux7.rows 20 (by decide)).seq fun _ _ => ux7.rows 40 (by decide))
  (fun x h => by
   have e : x.1 + x.2.1 - x.1 = x.2.1 := by omega
   refine ⟨⟨h.1, ?_, h.2.2.1, h.2.2.2.1, h.2.2.2.2.1, h.2.2.2.2.2.1, h.2.2.2.2.2.2.1, h.2.2.2.2.2.2.2⟩, ?_⟩
   ·show okNb (x.1 + x.2.1 - x.1); rw [e]; exact h.2.1
   ·show (x.1, x.1 + x.2.1 - x.1, _) = x; rw [e]; rfl)
  (fun d h => ⟨⟨h.1, h.2.1, h.2.2.1, h.2.2.2.1, h.2.2.2.2.1, h.2.2.2.2.2.1, h.2.2.2.2.2.2.1, h.2.2.2.2.2.2.2⟩, by
   have e : d.frm + (d.upto - d.frm) = d.upto := by omega
   cases d; simp only [toD] at e ⊢; rw [e]⟩)
  (fun _ _ => rfl)
theorem vxf {x : JobD} (hj : jobE x = 0) : okJb 3 x := by
 unfold jobE at hj
 split at hj
 ·rename_i hn
  rw [Bool.and_eq_true] at hn
  split at hj
  ·rename_i hw
   simp only [Bool.and_eq_true, uqz] at hw
   obtain ⟨⟨⟨w1, w2⟩, w3, w4⟩, w5, w6⟩ := hw
   refine ⟨uzl hn.1, ?_, ⟨w3, by omega⟩, ?_, ?_⟩
   ·unfold zigI; split <;> omega
   ·rw [if_pos (by decide)]; exact ⟨w5, by omega⟩
   ·rw [if_pos (by decide)]; exact vxk hn.2
  ·cases hj
 ·cases hj
theorem uy7 {x : NodeD} (hj : nodeE x = 0) : okNd 3 x := by
 unfold nodeE at hj
 split at hj
 ·rename_i hn
  rw [Bool.and_eq_true] at hn
  split at hj
  ·rename_i hw
   have hw := uqz.1 hw
   refine ⟨uzl hn.1, ⟨hw.1, by omega⟩, ?_⟩
   rw [if_pos (by decide)]; exact vxk hn.2
  ·cases hj
 ·cases hj
theorem uwy {x : uqf} (hj : uxz x = 0) : okLs x := by
 unfold uxz at hj
 split at hj
 ·rename_i hn
  rw [Bool.and_eq_true] at hn
  split at hj
  ·rename_i hw
   have hw := uqz.1 hw
   exact ⟨uzl hn.1, uzl hn.2, ⟨hw.1, by omega⟩⟩
  ·cases hj
 ·cases hj
theorem uyt {d : uq1} (h : uxj d = 0) : okD d := by
 obtain ⟨⟨h1, h2⟩, ⟨⟨l1, l2, l3, l4⟩, l5, l6⟩, h3⟩ := vjv h
 have e1 := (uzf.1 (h3 _ (by simp [uzp] : rowsE JobD.name jobE none d.jobs ∈ uzp d))).1
 have e2 := (uzf.1 (h3 _ (by simp [uzp] : rowsE NodeD.name nodeE none d.nodes ∈ uzp d))).1
 have e3 := (uzf.1 (h3 _ (by simp [uzp] : rowsE uqf.job uxz none d.leases ∈ uzp d))).1
 have e4 := uwv (h3 _ (by simp [uzp] : goneE (hasJn d.jobs) none d.gj ∈ uzp d))
 have e5 := uwv (h3 _ (by simp [uzp] : goneE (hasNn d.nodes) none d.gn ∈ uzp d))
 have e6 := uwv (h3 _ (by simp [uzp] : goneE (hasLn d.leases) none d.gl ∈ uzp d))
 exact ⟨⟨h1.1, by omega⟩, ⟨by omega, by omega⟩, ⟨l1, fun x hx => vxf (e1 x hx)⟩, ⟨l5, fun x hx => uy7 (e2 x hx)⟩, ⟨l2, fun x hx => uwy (e3 x hx)⟩, ⟨l3, fun s hs => uzl (e4 s hs)⟩, ⟨l6, fun s hs => uzl (e5 s hs)⟩, ⟨l4, fun s hs => uzl (e6 s hs)⟩⟩
def encDR (d : uq1) : List UInt8 × Nat := if uxj d ≠ 0 then ([], uxj d) else if 6000 < (encD d).length then ([], 2) else (encD d, 0)
def decDR (l : List UInt8) : uq1 × Nat :=
 if 6000 < l.length then (noD, 2) else match vql l with
 | .bad e => (noD, e)
 | .ok d r => if r ≠ [] then (noD, 4) else if uxj d ≠ 0 then (noD, uxj d) else (d, 0)
theorem wkv {d : uq1} (h : (encDR d).2 = 0) : encDR d = (encD d, 0) ∧ uxj d = 0 ∧ (encD d).length <= 6000 := by
 unfold encDR at h ⊢
 by_cases h1 : uxj d ≠ 0
 ·rw [if_pos h1] at h; exact absurd h h1
 ·rw [if_neg h1] at h ⊢
  by_cases h2 : 6000 < (encD d).length
  ·rw [if_pos h2] at h; cases h
  ·rw [if_neg h2]; exact ⟨rfl, by omega, by omega⟩
theorem wqn {d : uq1} (h : uxj d = 0) (hl : (encD d).length <= 6000) : decDR (encD d) = (d, 0) := by
 unfold decDR
 rw [if_neg (by omega)]
 have := uks.fwd d [] (uyt h)
 rw [List.append_nil] at this
 rw [this]
 simp only []
 rw [if_neg (by simp), if_neg (by simp [h])]
theorem decDR_ok {l : List UInt8} (h : (decDR l).2 = 0) : encDR (decDR l).1 = (l, 0) := by
 unfold decDR at h ⊢
 by_cases h0 : 6000 < l.length
 ·rw [if_pos h0] at h; cases h
 ·rw [if_neg h0] at h ⊢
  cases hp : vql l with
  | bad e => rw [hp] at h; exact absurd h (uks.err _ _ hp)
  | ok d r =>
   rw [hp] at h
   simp only [] at h ⊢
   by_cases h1 : r ≠ []
   ·rw [if_pos h1] at h; cases h
   ·rw [if_neg h1] at h ⊢
    by_cases h2 : uxj d ≠ 0
    ·rw [if_pos h2] at h; exact absurd h h2
    ·rw [if_neg h2]
     have hb := (uks.bwd _ _ _ hp).2
     have hr : r = [] := by simpa using h1
     rw [hr, List.append_nil] at hb
     unfold encDR
     rw [if_neg h2, <- hb, if_neg h0]
open Go.RowKit
theorem At.part {w : World} {g : Nat} {t : TypeId} {cs : Array Value} (h : Blk w g t cs) (o : Nat) (l : List Value) (hl : ∀ j v, l[j]? = some v -> cs[o + j]? = some v) : At w ⟨g, o, none⟩ l := fun j v hv => by
 rw [show (⟨g, o, none⟩ : Addr).add j = ⟨g, o + j, none⟩ from by unfold Addr.add; simp, h.cell]
 exact hl j v hv
theorem vjd (w : World) (base : Nat) : DelOwn w base none none none none none none 0 0 0 0 0 0 noD :=
 ⟨⟨by simp [noD], World.ownsRow_nil _ _ _ _⟩, ⟨by simp [noD], World.ownsRow_nil _ _ _ _⟩, ⟨by simp [noD], World.ownsRow_nil _ _ _ _⟩, ⟨by simp [noD], World.ownsRow_nil _ _ _ _⟩, ⟨by simp [noD], World.ownsRow_nil _ _ _ _⟩, ⟨by simp [noD], World.ownsRow_nil _ _ _ _⟩⟩
def DiffPost (w : World) (n : Nat) (d : uq1) (e : Ending) (w' : World) : Prop :=
 ∃ p1 p2 p3 p4 p5 p6 c1 c2 c3 c4 c5 c6, e = .returned (.tuple #[.agg (dv d p1 p2 p3 p4 p5 p6 c1 c2 c3 c4 c5 c6), .int .i64 (n : Int)]) ∧ DelOwn w' w.heap.size p1 p2 p3 p4 p5 p6 c1 c2 c3 c4 c5 c6 d ∧ Below w.heap.size w w'
theorem diff_any (a b : St) (p1 p2 p3 q1 q2 q3 : Option Addr) (c1 c2 c3 d1 d2 d3 : Nat) (w : World) (ha : StM w w.heap.size p1 p2 p3 a) (hb : StM w w.heap.size q1 q2 q3 b) (za : StSz a) (zb : StSz b) (hT : Tabs w) :
  Calls prog 17 #[.agg (stv a p1 p2 p3 c1 c2 c3), .agg (stv b q1 q2 q3 d1 d2 d3)] w fun e w' => DiffPost w (diffE a b) (diffD a b) e w' := by
 have hzd := uz0
 have HA := zrj (fun (W : World) (hW : Below w.heap.size w W) => ux2 a p1 p2 p3 c1 c2 c3 W ((ha.below hW).more hW.size) za (hT.below hW))
 have HB := zrj (fun (W : World) (hW : Below w.heap.size w W) => ux2 b q1 q2 q3 d1 d2 d3 W ((hb.below hW).more hW.size) zb (hT.below hW))
 have HW := zrj (fun (W : World) (hW : Below w.heap.size w W) => betw_any a b p1 p2 p3 q1 q2 q3 c1 c2 c3 d1 d2 d3 W ((ha.below hW).more hW.size) ((hb.below hW).more hW.size))
 have hB0 : Below w.heap.size w (((w.alloc (.cells (stv a p1 p2 p3 c1 c2 c3) 35)).alloc (.cells (stv b q1 q2 q3 d1 d2 d3) 35)).alloc (.cells zdv 49)) := (((zri _ _).alloc (zra _) _).alloc (by simp) _).alloc (by simp; omega) _
 have bA := ((Blk.new w 35 (stv a p1 p2 p3 c1 c2 c3)).alloc (.cells (stv b q1 q2 q3 d1 d2 d3) 35)).alloc (.cells zdv 49)
 have bB : Blk (((w.alloc (.cells (stv a p1 p2 p3 c1 c2 c3) 35)).alloc (.cells (stv b q1 q2 q3 d1 d2 d3) 35)).alloc (.cells zdv 49)) (w.heap.size + 1) 35 (stv b q1 q2 q3 d1 d2 d3) := by have := (Blk.new (w.alloc (.cells (stv a p1 p2 p3 c1 c2 c3) 35)) 35 (stv b q1 q2 q3 d1 d2 d3)).alloc (.cells zdv 49); simpa using this
 have bR : Blk (((w.alloc (.cells (stv a p1 p2 p3 c1 c2 c3) 35)).alloc (.cells (stv b q1 q2 q3 d1 d2 d3) 35)).alloc (.cells zdv 49)) (w.heap.size + 1 + 1) 49 zdv := by have := Blk.new ((w.alloc (.cells (stv a p1 p2 p3 c1 c2 c3) 35)).alloc (.cells (stv b q1 q2 q3 d1 d2 d3) 35)) 49 zdv; simpa using this
 have bL : Blk ((((w.alloc (.cells (stv a p1 p2 p3 c1 c2 c3) 35)).alloc (.cells (stv b q1 q2 q3 d1 d2 d3) 35)).alloc (.cells zdv 49)).alloc (.cells #[.int .i64 a.rev, .slice p1 a.jobs.length c1, .slice p2 a.nodes.length c2, .slice p3 a.leases.length c3, .int .i64 b.rev, .slice q1 b.jobs.length d1, .slice q2 b.nodes.length d2, .slice q3 b.leases.length d3] 35)) (w.heap.size + 1 + 1 + 1) 35 #[.int .i64 a.rev, .slice p1 a.jobs.length c1, .slice p2 a.nodes.length c2, .slice p3 a.leases.length c3, .int .i64 b.rev, .slice q1 b.jobs.length d1, .slice q2 b.nodes.length d2, .slice q3 b.leases.length d3] := by have := Blk.new (((w.alloc (.cells (stv a p1 p2 p3 c1 c2 c3) 35)).alloc (.cells (stv b q1 q2 q3 d1 d2 d3) 35)).alloc (.cells zdv 49)) 35 #[.int .i64 a.rev, .slice p1 a.jobs.length c1, .slice p2 a.nodes.length c2, .slice p3 a.leases.length c3, .int .i64 b.rev, .slice q1 b.jobs.length d1, .slice q2 b.nodes.length d2, .slice q3 b.leases.length d3]; simpa using this
 have hat0 : At ((((w.alloc (.cells (stv a p1 p2 p3 c1 c2 c3) 35)).alloc (.cells (stv b q1 q2 q3 d1 d2 d3) 35)).alloc (.cells zdv 49)).alloc (.cells #[.int .i64 a.rev, .slice p1 a.jobs.length c1, .slice p2 a.nodes.length c2, .slice p3 a.leases.length c3, .int .i64 b.rev, .slice q1 b.jobs.length d1, .slice q2 b.nodes.length d2, .slice q3 b.leases.length d3] 35)) ⟨w.heap.size + 1 + 1 + 1, 0, none⟩ [Value.int .i64 a.rev, Value.slice p1 a.jobs.length c1, Value.slice p2 a.nodes.length c2, Value.slice p3 a.leases.length c3] := At.part bL 0 _ (by intro j v hv; rcases j with _ | _ | _ | _ | j <;> simp at hv ⊢ <;> exact hv)
 have hat1 : At ((((w.alloc (.cells (stv a p1 p2 p3 c1 c2 c3) 35)).alloc (.cells (stv b q1 q2 q3 d1 d2 d3) 35)).alloc (.cells zdv 49)).alloc (.cells #[.int .i64 a.rev, .slice p1 a.jobs.length c1, .slice p2 a.nodes.length c2, .slice p3 a.leases.length c3, .int .i64 b.rev, .slice q1 b.jobs.length d1, .slice q2 b.nodes.length d2, .slice q3 b.leases.length d3] 35)) ⟨w.heap.size + 1 + 1 + 1, 4, none⟩ [Value.int .i64 b.rev, Value.slice q1 b.jobs.length d1, Value.slice q2 b.nodes.length d2, Value.slice q3 b.leases.length d3] := At.part bL 4 _ (by intro j v hv; rcases j with _ | _ | _ | _ | j <;> simp at hv ⊢ <;> exact hv)
 have hB4 := hB0.alloc hB0.size (.cells #[.int .i64 a.rev, .slice p1 a.jobs.length c1, .slice p2 a.nodes.length c2, .slice p3 a.leases.length c3, .int .i64 b.rev, .slice q1 b.jobs.length d1, .slice q2 b.nodes.length d2, .slice q3 b.leases.length d3] 35)
 have hDD := zrj (show diffD a b = if diffE a b = 0 then betw a b else noD from rfl)
 have hDE := zrj (show diffE a b = if uqq a ≠ 0 then uqq a else if uqq b ≠ 0 then uqq b else if b.rev <= a.rev then 1 else 0 from rfl)
 clear ha hb za zb hT
 by_cases hca : uqq a ≠ 0
 ·have hne : ((uqq a : Int) != 0) = true := by rw [bne_iff_ne]; omega
  have hfin := zrj (show diffE a b = uqq a from by rw [hDE.out, if_pos hca])
  have hfn := zrj hca
  clear hca
  generalize uqq a = ca at *
  go_enter func17, ntmps17
  go_wp2_with (first | (refine uqa rfl _ _ rfl w.heap.size rfl _ _ bA _ underlying35 rfl uqg ?_) | (refine uqa rfl _ _ rfl (w.heap.size + 1) rfl _ _ bB _ underlying35 rfl uqg ?_))
  have bA := bA.alloc (.cells #[.int .i64 a.rev, .slice p1 a.jobs.length c1, .slice p2 a.nodes.length c2, .slice p3 a.leases.length c3, .int .i64 b.rev, .slice q1 b.jobs.length d1, .slice q2 b.nodes.length d2, .slice q3 b.leases.length d3] 35)
  have bB := bB.alloc (.cells #[.int .i64 a.rev, .slice p1 a.jobs.length c1, .slice p2 a.nodes.length c2, .slice p3 a.leases.length c3, .int .i64 b.rev, .slice q1 b.jobs.length d1, .slice q2 b.nodes.length d2, .slice q3 b.leases.length d3] 35)
  have bR := bR.alloc (.cells #[.int .i64 a.rev, .slice p1 a.jobs.length c1, .slice p2 a.nodes.length c2, .slice p3 a.leases.length c3, .int .i64 b.rev, .slice q1 b.jobs.length d1, .slice q2 b.nodes.length d2, .slice q3 b.leases.length d3] 35)
  clear hB0
  generalize (((w.alloc (.cells (stv a p1 p2 p3 c1 c2 c3) 35)).alloc (.cells (stv b q1 q2 q3 d1 d2 d3) 35)).alloc (.cells zdv 49)).alloc (.cells #[.int .i64 a.rev, .slice p1 a.jobs.length c1, .slice p2 a.nodes.length c2, .slice p3 a.leases.length c3, .int .i64 b.rev, .slice q1 b.jobs.length d1, .slice q2 b.nodes.length d2, .slice q3 b.leases.length d3] 35) = W4 at *
  refine wp_loop_rounds 3 ?_
  rw [rounds_succ]
  go_wp2_with (first | (refine uqb rfl _ _ rfl ⟨w.heap.size + 1 + 1 + 1, 0, none⟩ rfl [Value.int .i64 a.rev, Value.slice p1 a.jobs.length c1, Value.slice p2 a.nodes.length c2, Value.slice p3 a.leases.length c3] _ hat0 underlying35 rfl uqg ?_) | (refine uqd rfl _ _ _ rfl rfl 35 _ (stv a p1 p2 p3 c1 c2 c3) rfl uqg rfl (uxq _ _ _ _ _ _ _ _ _ _) ?_))
  have hBx := hB4.alloc hB4.size (.cells (stv a p1 p2 p3 c1 c2 c3) 35)
  have bA0 := bA.alloc (.cells (stv a p1 p2 p3 c1 c2 c3) 35)
  have bB0 := bB.alloc (.cells (stv a p1 p2 p3 c1 c2 c3) 35)
  have bR0 := bR.alloc (.cells (stv a p1 p2 p3 c1 c2 c3) 35)
  have hat1x := hat1.below ((zri _ _).alloc (zra _) (.cells (stv a p1 p2 p3 c1 c2 c3) 35)) (show _ < _ from bL.lt)
  have bLx := bL.alloc (.cells (stv a p1 p2 p3 c1 c2 c3) 35)
  refine (HA.out _ hBx).mono ?_
  rintro e v0 ⟨rfl, hb0⟩
  have hBv0 := hBx.trans (hb0.mono hBx.size)
  have Av0 := bA0.below hb0 bA0.lt
  have Bv0 := bB0.below hb0 bB0.lt
  have Rv0 := bR0.below hb0 bR0.lt
  have hat1v := hat1x.below hb0 (show _ < _ from bLx.lt)
  clear bA0 bB0 bR0 hBx hat1x bLx
  go_wp2_with (first | (refine uqc rfl _ _ _ rfl (w.heap.size + 1 + 1) rfl _ _ zdv Rv0 rfl uqy rfl (uk1 _ _ _ _ _ _ _ _ _ _ _ _ _ _ _ _ _ _ _ _) ?_))
  refine bodyPost_ret (uqi rfl _ rfl (Rv0.setRow zdv) underlying49 rfl uqy) rfl ?_
  rw [hDD.out]
  rw [hfin.out, if_neg hfn.out]
  exact ⟨none, none, none, none, none, none, 0, 0, 0, 0, 0, 0, rfl, vjd _ _, uqh hBv0 (by omega) _⟩
 ·have hca0 : uqq a = 0 := by omega
  have HFA := zrj ((uxm a).1 hca0)
  have HA := HA.out
  rw [hca0] at HA
  have HA := zrj HA
  have hDE : Hid (diffE a b = if uqq b ≠ 0 then uqq b else if b.rev <= a.rev then 1 else 0) := zrj (by rw [hDE.out, if_neg hca])
  clear hca hca0
  have hz0 : (((0 : Nat) : Int) != 0) = false := rfl
  by_cases hcb : uqq b ≠ 0
  ·have hne : ((uqq b : Int) != 0) = true := by rw [bne_iff_ne]; omega
   have hfin := zrj (show diffE a b = uqq b from by rw [hDE.out, if_pos hcb])
   have hfn := zrj hcb
   clear hcb
   generalize uqq b = cb at *
   go_enter func17, ntmps17
   go_wp2_with (first | (refine uqa rfl _ _ rfl w.heap.size rfl _ _ bA _ underlying35 rfl uqg ?_) | (refine uqa rfl _ _ rfl (w.heap.size + 1) rfl _ _ bB _ underlying35 rfl uqg ?_))
   have bA := bA.alloc (.cells #[.int .i64 a.rev, .slice p1 a.jobs.length c1, .slice p2 a.nodes.length c2, .slice p3 a.leases.length c3, .int .i64 b.rev, .slice q1 b.jobs.length d1, .slice q2 b.nodes.length d2, .slice q3 b.leases.length d3] 35)
   have bB := bB.alloc (.cells #[.int .i64 a.rev, .slice p1 a.jobs.length c1, .slice p2 a.nodes.length c2, .slice p3 a.leases.length c3, .int .i64 b.rev, .slice q1 b.jobs.length d1, .slice q2 b.nodes.length d2, .slice q3 b.leases.length d3] 35)
   have bR := bR.alloc (.cells #[.int .i64 a.rev, .slice p1 a.jobs.length c1, .slice p2 a.nodes.length c2, .slice p3 a.leases.length c3, .int .i64 b.rev, .slice q1 b.jobs.length d1, .slice q2 b.nodes.length d2, .slice q3 b.leases.length d3] 35)
   clear hB0
   generalize (((w.alloc (.cells (stv a p1 p2 p3 c1 c2 c3) 35)).alloc (.cells (stv b q1 q2 q3 d1 d2 d3) 35)).alloc (.cells zdv 49)).alloc (.cells #[.int .i64 a.rev, .slice p1 a.jobs.length c1, .slice p2 a.nodes.length c2, .slice p3 a.leases.length c3, .int .i64 b.rev, .slice q1 b.jobs.length d1, .slice q2 b.nodes.length d2, .slice q3 b.leases.length d3] 35) = W4 at *
   refine wp_loop_rounds 3 ?_
   rw [rounds_succ]
   go_wp2_with (first | (refine uqb rfl _ _ rfl ⟨w.heap.size + 1 + 1 + 1, 0, none⟩ rfl [Value.int .i64 a.rev, Value.slice p1 a.jobs.length c1, Value.slice p2 a.nodes.length c2, Value.slice p3 a.leases.length c3] _ hat0 underlying35 rfl uqg ?_) | (refine uqd rfl _ _ _ rfl rfl 35 _ (stv a p1 p2 p3 c1 c2 c3) rfl uqg rfl (uxq _ _ _ _ _ _ _ _ _ _) ?_))
   have hBx := hB4.alloc hB4.size (.cells (stv a p1 p2 p3 c1 c2 c3) 35)
   have bA0 := bA.alloc (.cells (stv a p1 p2 p3 c1 c2 c3) 35)
   have bB0 := bB.alloc (.cells (stv a p1 p2 p3 c1 c2 c3) 35)
   have bR0 := bR.alloc (.cells (stv a p1 p2 p3 c1 c2 c3) 35)
   have hat1x := hat1.below ((zri _ _).alloc (zra _) (.cells (stv a p1 p2 p3 c1 c2 c3) 35)) (show _ < _ from bL.lt)
   have bLx := bL.alloc (.cells (stv a p1 p2 p3 c1 c2 c3) 35)
   refine (HA.out _ hBx).mono ?_
   rintro e v0 ⟨rfl, hb0⟩
   have hBv0 := hBx.trans (hb0.mono hBx.size)
   have Av0 := bA0.below hb0 bA0.lt
   have Bv0 := bB0.below hb0 bB0.lt
   have Rv0 := bR0.below hb0 bR0.lt
   have hat1v := hat1x.below hb0 (show _ < _ from bLx.lt)
   clear bA0 bB0 bR0 hBx hat1x bLx
   go_wp2_with fail
   rw [rounds_succ]
   go_wp2_with (first | (refine uqb rfl _ _ rfl ⟨w.heap.size + 1 + 1 + 1, 4, none⟩ rfl [Value.int .i64 b.rev, Value.slice q1 b.jobs.length d1, Value.slice q2 b.nodes.length d2, Value.slice q3 b.leases.length d3] _ hat1v underlying35 rfl uqg ?_) | (refine uqd rfl _ _ _ rfl rfl 35 _ (stv b q1 q2 q3 d1 d2 d3) rfl uqg rfl (uxq _ _ _ _ _ _ _ _ _ _) ?_))
   have hBx := hBv0.alloc hBv0.size (.cells (stv b q1 q2 q3 d1 d2 d3) 35)
   have bA1 := Av0.alloc (.cells (stv b q1 q2 q3 d1 d2 d3) 35)
   have bB1 := Bv0.alloc (.cells (stv b q1 q2 q3 d1 d2 d3) 35)
   have bR1 := Rv0.alloc (.cells (stv b q1 q2 q3 d1 d2 d3) 35)
   refine (HB.out _ hBx).mono ?_
   rintro e v1 ⟨rfl, hb1⟩
   have hBv1 := hBx.trans (hb1.mono hBx.size)
   have Av1 := bA1.below hb1 bA1.lt
   have Bv1 := bB1.below hb1 bB1.lt
   have Rv1 := bR1.below hb1 bR1.lt
   clear bA1 bB1 bR1 hBx
   go_wp2_with (first | (refine uqc rfl _ _ _ rfl (w.heap.size + 1 + 1) rfl _ _ zdv Rv1 rfl uqy rfl (uk1 _ _ _ _ _ _ _ _ _ _ _ _ _ _ _ _ _ _ _ _) ?_))
   refine bodyPost_ret (uqi rfl _ rfl (Rv1.setRow zdv) underlying49 rfl uqy) rfl ?_
   rw [hDD.out]
   rw [hfin.out, if_neg hfn.out]
   exact ⟨none, none, none, none, none, none, 0, 0, 0, 0, 0, 0, rfl, vjd _ _, uqh hBv1 (by omega) _⟩
  ·have hcb0 : uqq b = 0 := by omega
   have HFB := zrj ((uxm b).1 hcb0)
   have HB := HB.out
   rw [hcb0] at HB
   have HB := zrj HB
   have hDE : Hid (diffE a b = if b.rev <= a.rev then 1 else 0) := zrj (by rw [hDE.out, if_neg hcb])
   clear hcb hcb0
   by_cases hr : b.rev <= a.rev
   ·have hfin := zrj (show diffE a b = 1 from by rw [hDE.out, if_pos hr])
    go_enter func17, ntmps17
    go_wp2_with (first | (refine uqa rfl _ _ rfl w.heap.size rfl _ _ bA _ underlying35 rfl uqg ?_) | (refine uqa rfl _ _ rfl (w.heap.size + 1) rfl _ _ bB _ underlying35 rfl uqg ?_))
    have bA := bA.alloc (.cells #[.int .i64 a.rev, .slice p1 a.jobs.length c1, .slice p2 a.nodes.length c2, .slice p3 a.leases.length c3, .int .i64 b.rev, .slice q1 b.jobs.length d1, .slice q2 b.nodes.length d2, .slice q3 b.leases.length d3] 35)
    have bB := bB.alloc (.cells #[.int .i64 a.rev, .slice p1 a.jobs.length c1, .slice p2 a.nodes.length c2, .slice p3 a.leases.length c3, .int .i64 b.rev, .slice q1 b.jobs.length d1, .slice q2 b.nodes.length d2, .slice q3 b.leases.length d3] 35)
    have bR := bR.alloc (.cells #[.int .i64 a.rev, .slice p1 a.jobs.length c1, .slice p2 a.nodes.length c2, .slice p3 a.leases.length c3, .int .i64 b.rev, .slice q1 b.jobs.length d1, .slice q2 b.nodes.length d2, .slice q3 b.leases.length d3] 35)
    clear hB0
    generalize (((w.alloc (.cells (stv a p1 p2 p3 c1 c2 c3) 35)).alloc (.cells (stv b q1 q2 q3 d1 d2 d3) 35)).alloc (.cells zdv 49)).alloc (.cells #[.int .i64 a.rev, .slice p1 a.jobs.length c1, .slice p2 a.nodes.length c2, .slice p3 a.leases.length c3, .int .i64 b.rev, .slice q1 b.jobs.length d1, .slice q2 b.nodes.length d2, .slice q3 b.leases.length d3] 35) = W4 at *
    refine wp_loop_rounds 3 ?_
    rw [rounds_succ]
    go_wp2_with (first | (refine uqb rfl _ _ rfl ⟨w.heap.size + 1 + 1 + 1, 0, none⟩ rfl [Value.int .i64 a.rev, Value.slice p1 a.jobs.length c1, Value.slice p2 a.nodes.length c2, Value.slice p3 a.leases.length c3] _ hat0 underlying35 rfl uqg ?_) | (refine uqd rfl _ _ _ rfl rfl 35 _ (stv a p1 p2 p3 c1 c2 c3) rfl uqg rfl (uxq _ _ _ _ _ _ _ _ _ _) ?_))
    have hBx := hB4.alloc hB4.size (.cells (stv a p1 p2 p3 c1 c2 c3) 35)
    have bA0 := bA.alloc (.cells (stv a p1 p2 p3 c1 c2 c3) 35)
    have bB0 := bB.alloc (.cells (stv a p1 p2 p3 c1 c2 c3) 35)
    have bR0 := bR.alloc (.cells (stv a p1 p2 p3 c1 c2 c3) 35)
    have hat1x := hat1.below ((zri _ _).alloc (zra _) (.cells (stv a p1 p2 p3 c1 c2 c3) 35)) (show _ < _ from bL.lt)
    have bLx := bL.alloc (.cells (stv a p1 p2 p3 c1 c2 c3) 35)
    refine (HA.out _ hBx).mono ?_
    rintro e v0 ⟨rfl, hb0⟩
    have hBv0 := hBx.trans (hb0.mono hBx.size)
    have Av0 := bA0.below hb0 bA0.lt
    have Bv0 := bB0.below hb0 bB0.lt
    have Rv0 := bR0.below hb0 bR0.lt
    have hat1v := hat1x.below hb0 (show _ < _ from bLx.lt)
    clear bA0 bB0 bR0 hBx hat1x bLx
    go_wp2_with fail
    rw [rounds_succ]
    go_wp2_with (first | (refine uqb rfl _ _ rfl ⟨w.heap.size + 1 + 1 + 1, 4, none⟩ rfl [Value.int .i64 b.rev, Value.slice q1 b.jobs.length d1, Value.slice q2 b.nodes.length d2, Value.slice q3 b.leases.length d3] _ hat1v underlying35 rfl uqg ?_) | (refine uqd rfl _ _ _ rfl rfl 35 _ (stv b q1 q2 q3 d1 d2 d3) rfl uqg rfl (uxq _ _ _ _ _ _ _ _ _ _) ?_))
    have hBx := hBv0.alloc hBv0.size (.cells (stv b q1 q2 q3 d1 d2 d3) 35)
    have bA1 := Av0.alloc (.cells (stv b q1 q2 q3 d1 d2 d3) 35)
    have bB1 := Bv0.alloc (.cells (stv b q1 q2 q3 d1 d2 d3) 35)
    have bR1 := Rv0.alloc (.cells (stv b q1 q2 q3 d1 d2 d3) 35)
    refine (HB.out _ hBx).mono ?_
    rintro e v1 ⟨rfl, hb1⟩
    have hBv1 := hBx.trans (hb1.mono hBx.size)
    have Av1 := bA1.below hb1 bA1.lt
    have Bv1 := bB1.below hb1 bB1.lt
    have Rv1 := bR1.below hb1 bR1.lt
    clear bA1 bB1 bR1 hBx
    go_wp2_with fail
    rw [rounds_succ]
    have x1 : v1.cell? ⟨w.heap.size, 0, none⟩ = some (.int .i64 a.rev) := Av1.cell 0
    have x2 : v1.cell? ⟨w.heap.size + 1, 0, none⟩ = some (.int .i64 b.rev) := Bv1.cell 0
    go_wp2_with (first | (refine uqc rfl _ _ _ rfl (w.heap.size + 1 + 1) rfl _ _ zdv Rv1 rfl uqy rfl (uk1 _ _ _ _ _ _ _ _ _ _ _ _ _ _ _ _ _ _ _ _) ?_))
    refine bodyPost_ret (uqi rfl _ rfl (Rv1.setRow zdv) underlying49 rfl uqy) rfl ?_
    rw [hDD.out]
    rw [hfin.out, if_neg (by decide)]
    exact ⟨none, none, none, none, none, none, 0, 0, 0, 0, 0, 0, rfl, vjd _ _, uqh hBv1 (by omega) _⟩
   ·have hfin := zrj (show diffE a b = 0 from by rw [hDE.out, if_neg hr])
    go_enter func17, ntmps17
    go_wp2_with (first | (refine uqa rfl _ _ rfl w.heap.size rfl _ _ bA _ underlying35 rfl uqg ?_) | (refine uqa rfl _ _ rfl (w.heap.size + 1) rfl _ _ bB _ underlying35 rfl uqg ?_))
    have bA := bA.alloc (.cells #[.int .i64 a.rev, .slice p1 a.jobs.length c1, .slice p2 a.nodes.length c2, .slice p3 a.leases.length c3, .int .i64 b.rev, .slice q1 b.jobs.length d1, .slice q2 b.nodes.length d2, .slice q3 b.leases.length d3] 35)
    have bB := bB.alloc (.cells #[.int .i64 a.rev, .slice p1 a.jobs.length c1, .slice p2 a.nodes.length c2, .slice p3 a.leases.length c3, .int .i64 b.rev, .slice q1 b.jobs.length d1, .slice q2 b.nodes.length d2, .slice q3 b.leases.length d3] 35)
    have bR := bR.alloc (.cells #[.int .i64 a.rev, .slice p1 a.jobs.length c1, .slice p2 a.nodes.length c2, .slice p3 a.leases.length c3, .int .i64 b.rev, .slice q1 b.jobs.length d1, .slice q2 b.nodes.length d2, .slice q3 b.leases.length d3] 35)
    clear hB0
    generalize (((w.alloc (.cells (stv a p1 p2 p3 c1 c2 c3) 35)).alloc (.cells (stv b q1 q2 q3 d1 d2 d3) 35)).alloc (.cells zdv 49)).alloc (.cells #[.int .i64 a.rev, .slice p1 a.jobs.length c1, .slice p2 a.nodes.length c2, .slice p3 a.leases.length c3, .int .i64 b.rev, .slice q1 b.jobs.length d1, .slice q2 b.nodes.length d2, .slice q3 b.leases.length d3] 35) = W4 at *
    refine wp_loop_rounds 3 ?_
    rw [rounds_succ]
    go_wp2_with (first | (refine uqb rfl _ _ rfl ⟨w.heap.size + 1 + 1 + 1, 0, none⟩ rfl [Value.int .i64 a.rev, Value.slice p1 a.jobs.length c1, Value.slice p2 a.nodes.length c2, Value.slice p3 a.leases.length c3] _ hat0 underlying35 rfl uqg ?_) | (refine uqd rfl _ _ _ rfl rfl 35 _ (stv a p1 p2 p3 c1 c2 c3) rfl uqg rfl (uxq _ _ _ _ _ _ _ _ _ _) ?_))
    have hBx := hB4.alloc hB4.size (.cells (stv a p1 p2 p3 c1 c2 c3) 35)
    have bA0 := bA.alloc (.cells (stv a p1 p2 p3 c1 c2 c3) 35)
    have bB0 := bB.alloc (.cells (stv a p1 p2 p3 c1 c2 c3) 35)
    have bR0 := bR.alloc (.cells (stv a p1 p2 p3 c1 c2 c3) 35)
    have hat1x := hat1.below ((zri _ _).alloc (zra _) (.cells (stv a p1 p2 p3 c1 c2 c3) 35)) (show _ < _ from bL.lt)
    have bLx := bL.alloc (.cells (stv a p1 p2 p3 c1 c2 c3) 35)
    refine (HA.out _ hBx).mono ?_
    rintro e v0 ⟨rfl, hb0⟩
    have hBv0 := hBx.trans (hb0.mono hBx.size)
    have Av0 := bA0.below hb0 bA0.lt
    have Bv0 := bB0.below hb0 bB0.lt
    have Rv0 := bR0.below hb0 bR0.lt
    have hat1v := hat1x.below hb0 (show _ < _ from bLx.lt)
    clear bA0 bB0 bR0 hBx hat1x bLx
    go_wp2_with fail
    rw [rounds_succ]
    go_wp2_with (first | (refine uqb rfl _ _ rfl ⟨w.heap.size + 1 + 1 + 1, 4, none⟩ rfl [Value.int .i64 b.rev, Value.slice q1 b.jobs.length d1, Value.slice q2 b.nodes.length d2, Value.slice q3 b.leases.length d3] _ hat1v underlying35 rfl uqg ?_) | (refine uqd rfl _ _ _ rfl rfl 35 _ (stv b q1 q2 q3 d1 d2 d3) rfl uqg rfl (uxq _ _ _ _ _ _ _ _ _ _) ?_))
    have hBx := hBv0.alloc hBv0.size (.cells (stv b q1 q2 q3 d1 d2 d3) 35)
    have bA1 := Av0.alloc (.cells (stv b q1 q2 q3 d1 d2 d3) 35)
    have bB1 := Bv0.alloc (.cells (stv b q1 q2 q3 d1 d2 d3) 35)
    have bR1 := Rv0.alloc (.cells (stv b q1 q2 q3 d1 d2 d3) 35)
    refine (HB.out _ hBx).mono ?_
    rintro e v1 ⟨rfl, hb1⟩
    have hBv1 := hBx.trans (hb1.mono hBx.size)
    have Av1 := bA1.below hb1 bA1.lt
    have Bv1 := bB1.below hb1 bB1.lt
    have Rv1 := bR1.below hb1 bR1.lt
    clear bA1 bB1 bR1 hBx
    go_wp2_with fail
    rw [rounds_succ]
    have x1 : v1.cell? ⟨w.heap.size, 0, none⟩ = some (.int .i64 a.rev) := Av1.cell 0
    have x2 : v1.cell? ⟨w.heap.size + 1, 0, none⟩ = some (.int .i64 b.rev) := Bv1.cell 0
    go_wp2_with (first | (refine uqa rfl _ _ rfl w.heap.size rfl _ _ Av1 _ underlying35 rfl uqg ?_) | (refine uqa rfl _ _ rfl (w.heap.size + 1) rfl _ _ Bv1 _ underlying35 rfl uqg ?_))
    have fj := HFA.out.nj; have fn := HFA.out.nn; have fl := HFA.out.nl; have gj := HFB.out.nj; have gn := HFB.out.nn; have gl := HFB.out.nl
    refine (HW.out _ hBv1 ⟨by omega, by omega⟩ ⟨by omega, by omega⟩ ⟨by omega, by omega⟩).mono ?_
    rintro e v2 ⟨r1, r2, r3, r4, r5, r6, e1, e2, e3, e4, e5, e6, rfl, hO, hb2⟩
    have hBv2 := hBv1.trans (hb2.mono hBv1.size)
    have Rv2 := Rv1.below hb2 Rv1.lt
    have hRlt := Rv1.lt
    have hbt : betw a b = diffD a b := by rw [hDD.out, if_pos hfin.out]
    obtain ⟨dd, hdd⟩ : ∃ dd, diffD a b = dd := ⟨_, rfl⟩
    rw [hdd] at hbt
    rw [hbt] at hO ⊢
    clear hbt
    go_wp2_with (first | (refine uqc rfl _ _ _ rfl (w.heap.size + 1 + 1) rfl _ _ (dv dd r1 r2 r3 r4 r5 r6 e1 e2 e3 e4 e5 e6) Rv2 rfl uqy rfl (uk1 _ _ _ _ _ _ _ _ _ _ _ _ _ _ _ _ _ _ _ _) ?_))
    refine bodyPost_ret (uqi rfl _ rfl (Rv2.setRow (dv dd r1 r2 r3 r4 r5 r6 e1 e2 e3 e4 e5 e6)) underlying49 rfl uqy) rfl ?_
    rw [hfin.out, hdd]
    have hlo : w.heap.size <= v1.heap.size := hBv1.size
    exact ⟨r1, r2, r3, r4, r5, r6, e1, e2, e3, e4, e5, e6, rfl, ⟨(hO.j.row_ hRlt _).lower hlo, (hO.n.row_ hRlt _).lower hlo, (hO.l.row_ hRlt _).lower hlo, (hO.gj.row_ hRlt _).lower hlo, (hO.gn.row_ hRlt _).lower hlo, (hO.gl.row_ hRlt _).lower hlo⟩, uqh hBv2 (by omega) _⟩
theorem ww9 (x : JobD) : ((rwJ x) : Array Value).all (·.oneCell') = true := by simp [Value.oneCell']
theorem xxb (t8 : TypeId) (g8 g : Nat) (l : List UInt8) (x : JobD) (w : World) (h8 : Blk w g8 t8 #[.pointer (some ⟨g, 0, none⟩)]) (h : Wr w g l) (hj : okJb 3 x) (hl : l.length <= 70368744177000) (hT : ∀ w', Below g w w' -> Tabs w') :
  Calls prog 40 #[.agg (rwJ x), .pointer (some ⟨g8, 0, none⟩)] w fun e w' => e = .returned (.tuple #[]) ∧ Wr w' g (l ++ encJ 3 x) ∧ Below g w w' ∧ WKeep g w w' := by
 have bX := Blk.new w 62 (rwJ x)
 have hglt := h.lt
 have B0 : Below g w (w.alloc (.cells (rwJ x) 62)) := (zri _ _).alloc (by omega) _
 have K0 : WKeep g w (w.alloc (.cells (rwJ x) 62)) := WKeep.of g (Keep.alloc _ _ _)
 have c8 : (w.alloc (.cells (rwJ x) 62)).cell? ⟨g8, 0, none⟩ = some (.pointer (some ⟨g, 0, none⟩)) := (h8.alloc _).cell 0
 have HC := zrj (vy4 g l x 3 (w.alloc (.cells (rwJ x) 62)) (h.below ((zri _ _).alloc (zra _) _)) hj hl (fun w' hb => hT _ (B0.trans hb)))
 clear hT h
 go_enter func40, ntmps40
 go_wp2_with (refine uqa rfl _ _ rfl w.heap.size rfl _ _ bX _ underlying62 rfl uqp ?_)
 refine HC.out.mono ?_
 rintro e w1 ⟨rfl, h1, B1, K1⟩
 go_wp2_with fail
 go_end0
 exact ⟨rfl, h1, B0.trans B1, K0.trans K1⟩
theorem xzn (t8 : TypeId) (g8 : Nat) (g : Nat) (l : List UInt8) (p : Option Addr) (c : Nat) (rows : List JobD) (w : World) (h8 : Blk w g8 t8 #[.pointer (some ⟨g, 0, none⟩)]) (n8 : t8 ≠ 5 ∧ g8 ≠ g) (h : Wr w g l) (hel : Elts w g 5 p (rows.map rowJ)) (hok : ∀ x ∈ rows, okJb 3 x) (hn : rows.length <= 40) (hl : l.length <= 70368744170000) (hT : ∀ w', Below g w w' -> Tabs w') :
  Calls prog 39 #[.pointer (some ⟨g, 0, none⟩), .slice p rows.length c, .func (.func 40) #[] #[.pointer (some ⟨g8, 0, none⟩)]] w fun e w' => e = .returned (.tuple #[]) ∧ Wr w' g (l ++ rowsB (encJ 3) rows) ∧ Below g w w' ∧ WKeep g w w' := by
 have HT := zrj hT
 have HO := zrj hok
 clear hT hok
 go_enter func39, ntmps39
 go_wp2_with fail
 refine (uq2 g l (rows.length : Int) w h (by omega) (by omega)).mono ?_
 rintro e w1 ⟨rfl, h1, B1, K1⟩
 have hp10 : (putN ((rows.length : Int)).toNat).length <= 10 := uqj _ (by omega)
 go_wp2_with fail
 go_loopw [14] (fun i wr => ∃ (k : Nat) (cur : List UInt8), k <= rows.length ∧ i = .int .i64 k ∧ Wr wr g cur ∧ Below g w wr ∧ WKeep g w wr ∧ Hid (l ++ rowsB (encJ 3) rows = cur ++ (rows.drop k).flatMap (encJ 3)) ∧ cur.length <= l.length + 10 + 82 * k) (fun i _ => rows.length - (intOf i).toNat)
 case atStart => exact ⟨0, _, Nat.zero_le _, rfl, h1, B1, K1, (show _ = _ by unfold rowsB; simp), by rw [zrb]; omega⟩
 case round =>
  obtain ⟨k, cur, hk, rfl, hW, hB, hK, HH, hlen⟩ := hrel
  by_cases hlt : k < rows.length
  ·have hx : rows[k]? = some rows[k] := zrd hlt
   have hdr := vxt rows k _ hx
   have hxo := HO.out rows[k] (List.getElem_mem hlt)
   generalize rows[k] = x at *
   obtain ⟨a, ha, hab, _, hat⟩ := (hel.below hB).at_ (k := k) (r := rowJ x) (by rw [zrg, hx]; rfl)
   subst ha
   have hxl := vq5 hxo
   have hW2 : Wr (wr.alloc (.cells (rwJ x) 62)) g cur := hW.below ((zri _ _).alloc (zra _) _)
   have hB2 : Below g w (wr.alloc (.cells (rwJ x) 62)) := hB.alloc (by have := hW.lt; omega) _
   have hK2 : WKeep g w (wr.alloc (.cells (rwJ x) 62)) := hK.trans (WKeep.of g (Keep.alloc _ _ _))
   have bX := Blk.new wr 62 (rwJ x)
   have HC := zrj (xxb t8 g8 g cur x _ (hK2 _ _ _ n8.1 n8.2 h8) hW2 hxo (by omega) (fun w' hb => HT.out _ (hB2.trans hb)))
   have HH1 := HH.out
   rw [hdr, List.flatMap_cons, <- zrh] at HH1
   have HH2 := zrj HH1
   clear HH HH1 hdr hx hW hW2
   go_wp2_with (first
    | (refine uqb rfl _ _ rfl (a.add (k * 5)) rfl (rlJ x) _ hat underlying62 rfl uqp ?_)
    | (refine uqd rfl _ _ _ rfl rfl _ _ (rwJ x) rfl uqp rfl (ww9 _) ?_)
    | (refine uqa rfl _ _ rfl wr.heap.size rfl _ _ bX _ underlying62 rfl uqp ?_))
   refine HC.out.mono ?_
   rintro e w3 ⟨rfl, h3, B3, K3⟩
   go_wp2_with fail
   go_roundw
   case rel => exact ⟨k + 1, _, by omega, by go_num, h3, hB2.trans B3, hK2.trans K3, HH2.out, by rw [zrb]; omega⟩
   case measure => simp [intOf]; omega
  ·obtain rfl : k = rows.length := by omega
   have HH1 := HH.out
   rw [List.drop_length, List.flatMap_nil, List.append_nil] at HH1
   have HH2 := zrj HH1
   clear HH HH1
   go_wp2_with fail
   go_end0
   exact ⟨rfl, HH2.out ▸ hW, hB, hK⟩
theorem wya (x : NodeD) : ((rwN x) : Array Value).all (·.oneCell') = true := by simp [Value.oneCell']
theorem xxc (t8 : TypeId) (g8 g : Nat) (l : List UInt8) (x : NodeD) (w : World) (h8 : Blk w g8 t8 #[.pointer (some ⟨g, 0, none⟩)]) (h : Wr w g l) (hj : okNd 3 x) (hl : l.length <= 70368744177000) (hT : ∀ w', Below g w w' -> Tabs w') :
  Calls prog 43 #[.agg (rwN x), .pointer (some ⟨g8, 0, none⟩)] w fun e w' => e = .returned (.tuple #[]) ∧ Wr w' g (l ++ encN 3 x) ∧ Below g w w' ∧ WKeep g w w' := by
 have bX := Blk.new w 64 (rwN x)
 have hglt := h.lt
 have B0 : Below g w (w.alloc (.cells (rwN x) 64)) := (zri _ _).alloc (by omega) _
 have K0 : WKeep g w (w.alloc (.cells (rwN x) 64)) := WKeep.of g (Keep.alloc _ _ _)
 have c8 : (w.alloc (.cells (rwN x) 64)).cell? ⟨g8, 0, none⟩ = some (.pointer (some ⟨g, 0, none⟩)) := (h8.alloc _).cell 0
 have HC := zrj (vk5 g l x 3 (w.alloc (.cells (rwN x) 64)) (h.below ((zri _ _).alloc (zra _) _)) hj hl (fun w' hb => hT _ (B0.trans hb)))
 clear hT h
 go_enter func43, ntmps43
 go_wp2_with (refine uqa rfl _ _ rfl w.heap.size rfl _ _ bX _ underlying64 rfl uqm ?_)
 refine HC.out.mono ?_
 rintro e w1 ⟨rfl, h1, B1, K1⟩
 go_wp2_with fail
 go_end0
 exact ⟨rfl, h1, B0.trans B1, K0.trans K1⟩
theorem xzr (t8 : TypeId) (g8 : Nat) (g : Nat) (l : List UInt8) (p : Option Addr) (c : Nat) (rows : List NodeD) (w : World) (h8 : Blk w g8 t8 #[.pointer (some ⟨g, 0, none⟩)]) (n8 : t8 ≠ 5 ∧ g8 ≠ g) (h : Wr w g l) (hel : Elts w g 3 p (rows.map rowN)) (hok : ∀ x ∈ rows, okNd 3 x) (hn : rows.length <= 40) (hl : l.length <= 70368744170000) (hT : ∀ w', Below g w w' -> Tabs w') :
  Calls prog 42 #[.pointer (some ⟨g, 0, none⟩), .slice p rows.length c, .func (.func 43) #[] #[.pointer (some ⟨g8, 0, none⟩)]] w fun e w' => e = .returned (.tuple #[]) ∧ Wr w' g (l ++ rowsB (encN 3) rows) ∧ Below g w w' ∧ WKeep g w w' := by
 have HT := zrj hT
 have HO := zrj hok
 clear hT hok
 go_enter func42, ntmps42
 go_wp2_with fail
 refine (uq2 g l (rows.length : Int) w h (by omega) (by omega)).mono ?_
 rintro e w1 ⟨rfl, h1, B1, K1⟩
 have hp10 : (putN ((rows.length : Int)).toNat).length <= 10 := uqj _ (by omega)
 go_wp2_with fail
 go_loopw [14] (fun i wr => ∃ (k : Nat) (cur : List UInt8), k <= rows.length ∧ i = .int .i64 k ∧ Wr wr g cur ∧ Below g w wr ∧ WKeep g w wr ∧ Hid (l ++ rowsB (encN 3) rows = cur ++ (rows.drop k).flatMap (encN 3)) ∧ cur.length <= l.length + 10 + 62 * k) (fun i _ => rows.length - (intOf i).toNat)
 case atStart => exact ⟨0, _, Nat.zero_le _, rfl, h1, B1, K1, (show _ = _ by unfold rowsB; simp), by rw [zrb]; omega⟩
 case round =>
  obtain ⟨k, cur, hk, rfl, hW, hB, hK, HH, hlen⟩ := hrel
  by_cases hlt : k < rows.length
  ·have hx : rows[k]? = some rows[k] := zrd hlt
   have hdr := vxt rows k _ hx
   have hxo := HO.out rows[k] (List.getElem_mem hlt)
   generalize rows[k] = x at *
   obtain ⟨a, ha, hab, _, hat⟩ := (hel.below hB).at_ (k := k) (r := rowN x) (by rw [zrg, hx]; rfl)
   subst ha
   have hxl := vq6 hxo
   have hW2 : Wr (wr.alloc (.cells (rwN x) 64)) g cur := hW.below ((zri _ _).alloc (zra _) _)
   have hB2 : Below g w (wr.alloc (.cells (rwN x) 64)) := hB.alloc (by have := hW.lt; omega) _
   have hK2 : WKeep g w (wr.alloc (.cells (rwN x) 64)) := hK.trans (WKeep.of g (Keep.alloc _ _ _))
   have bX := Blk.new wr 64 (rwN x)
   have HC := zrj (xxc t8 g8 g cur x _ (hK2 _ _ _ n8.1 n8.2 h8) hW2 hxo (by omega) (fun w' hb => HT.out _ (hB2.trans hb)))
   have HH1 := HH.out
   rw [hdr, List.flatMap_cons, <- zrh] at HH1
   have HH2 := zrj HH1
   clear HH HH1 hdr hx hW hW2
   go_wp2_with (first
    | (refine uqb rfl _ _ rfl (a.add (k * 3)) rfl (rlN x) _ hat underlying64 rfl uqm ?_)
    | (refine uqd rfl _ _ _ rfl rfl _ _ (rwN x) rfl uqm rfl (wya _) ?_)
    | (refine uqa rfl _ _ rfl wr.heap.size rfl _ _ bX _ underlying64 rfl uqm ?_))
   refine HC.out.mono ?_
   rintro e w3 ⟨rfl, h3, B3, K3⟩
   go_wp2_with fail
   go_roundw
   case rel => exact ⟨k + 1, _, by omega, by go_num, h3, hB2.trans B3, hK2.trans K3, HH2.out, by rw [zrb]; omega⟩
   case measure => simp [intOf]; omega
  ·obtain rfl : k = rows.length := by omega
   have HH1 := HH.out
   rw [List.drop_length, List.flatMap_nil, List.append_nil] at HH1
   have HH2 := zrj HH1
   clear HH HH1
   go_wp2_with fail
   go_end0
   exact ⟨rfl, HH2.out ▸ hW, hB, hK⟩
theorem vz9 {s : ByteArray} (h : okTx s.data.toList) : (encT s).length <= 26 := uzd h
theorem vys (g : Nat) (l : List UInt8) (p : Option Addr) (c : Nat) (rows : List ByteArray) (w : World) (h : Wr w g l) (hel : Elts w g 1 p (rows.map rowS)) (hok : ∀ x ∈ rows, okTx x.data.toList) (hn : rows.length <= 40) (hl : l.length <= 70368744170000) (hT : ∀ w', Below g w w' -> Tabs w') :
  Calls prog 47 #[.pointer (some ⟨g, 0, none⟩), .slice p rows.length c, .func (.func 48) #[.pointer (some ⟨g, 0, none⟩)] #[]] w fun e w' => e = .returned (.tuple #[]) ∧ Wr w' g (l ++ rowsB encT rows) ∧ Below g w w' ∧ WKeep g w w' := by
 have HT := zrj hT
 have HO := zrj hok
 clear hT hok
 go_enter func47, ntmps47
 go_wp2_with fail
 refine (uq2 g l (rows.length : Int) w h (by omega) (by omega)).mono ?_
 rintro e w1 ⟨rfl, h1, B1, K1⟩
 have hp10 : (putN ((rows.length : Int)).toNat).length <= 10 := uqj _ (by omega)
 go_wp2_with fail
 go_loopw [14] (fun i wr => ∃ (k : Nat) (cur : List UInt8), k <= rows.length ∧ i = .int .i64 k ∧ Wr wr g cur ∧ Below g w wr ∧ WKeep g w wr ∧ Hid (l ++ rowsB encT rows = cur ++ (rows.drop k).flatMap encT) ∧ cur.length <= l.length + 10 + 62 * k) (fun i _ => rows.length - (intOf i).toNat)
 case atStart => exact ⟨0, _, Nat.zero_le _, rfl, h1, B1, K1, (show _ = _ by unfold rowsB; simp), by rw [zrb]; omega⟩
 case round =>
  obtain ⟨k, cur, hk, rfl, hW, hB, hK, HH, hlen⟩ := hrel
  by_cases hlt : k < rows.length
  ·have hx : rows[k]? = some rows[k] := zrd hlt
   have hdr := vxt rows k _ hx
   have hxo := HO.out rows[k] (List.getElem_mem hlt)
   generalize rows[k] = x at *
   obtain ⟨a, ha, hab, _, hat⟩ := (hel.below hB).at_ (k := k) (r := rowS x) (by rw [zrg, hx]; rfl)
   subst ha
   have hxl := vz9 hxo
   have hxl2 : (textB x.data.toList).length <= 26 := hxl
   have e0 : wr.cell? (a.add k) = some (.string x) := uw8 hat
   have hk0 : (0 : Int) <= (k : Int) := by omega
   have hk1 : (k : Int) < (rows.length : Int) := by omega
   have HC := zrj (uzs g cur x wr hW hxo (by omega) (HT.out _ hB))
   have HH1 := HH.out
   rw [hdr, List.flatMap_cons, <- zrh] at HH1
   have HH2 := zrj HH1
   clear HH HH1 hdr hx hW hat
   go_wp2_with fail
   refine HC.out.mono ?_
   rintro e w3 ⟨rfl, h3, B3, K3⟩
   go_wp2_with fail
   go_roundw
   case rel => exact ⟨k + 1, _, by omega, by go_num, h3, hB.trans B3, hK.trans K3, HH2.out, by rw [zrb]; omega⟩
   case measure => simp [intOf]; omega
  ·obtain rfl : k = rows.length := by omega
   have HH1 := HH.out
   rw [List.drop_length, List.flatMap_nil, List.append_nil] at HH1
   have HH2 := zrj HH1
   clear HH HH1
   go_wp2_with fail
   go_end0
   exact ⟨rfl, HH2.out ▸ hW, hB, hK⟩
theorem uvj {α : Type} {enc : α -> List UInt8} {l : List α} {m : Nat} (h : ∀ x ∈ l, (enc x).length <= m) (hl : l.length <= 40) : (rowsB enc l).length <= 10 + m * 40 := by
 have h1 := uqj l.length (by omega)
 have h2 : (l.flatMap enc).length <= m * l.length := by
  clear hl h1
  induction l with
  | nil => simp
  | cons a r ih =>
   rw [List.flatMap_cons, zrb, List.length_cons, Nat.mul_succ]
   have := h a List.mem_cons_self
   have := ih fun x hx => h x (List.mem_cons_of_mem _ hx)
   omega
 have h3 : m * l.length <= m * 40 := Nat.mul_le_mul_left m hl
 unfold rowsB
 rw [zrb]
 omega
def EncPost (w : World) (r : List UInt8 × Nat) (e : Ending) (w' : World) : Prop := e = .returned (.tuple #[.string (bstr r.1), .int .i64 (r.2 : Int)]) ∧ Below w.heap.size w w'
theorem vzm (d : uq1) (p1 p2 p3 p4 p5 p6 : Option Addr) (c1 c2 c3 c4 c5 c6 : Nat) (w : World) (hm : DelM w w.heap.size p1 p2 p3 p4 p5 p6 d) (hk : DelOk d) (hT : Tabs w) :
  Calls prog 15 #[.agg (dv d p1 p2 p3 p4 p5 p6 c1 c2 c3 c4 c5 c6)] w fun e w' => EncPost w (encDR d) e w' := by
 have hb0 : Below w.heap.size w (w.alloc (.cells (dv d p1 p2 p3 p4 p5 p6 c1 c2 c3 c4 c5 c6) 49)) := (zri _ _).alloc (zra _) _
 have bx := Blk.new w 49 (dv d p1 p2 p3 p4 p5 p6 c1 c2 c3 c4 c5 c6)
 have HC := zrj (fun (W : World) (hW : Below w.heap.size w W) => uvd d p1 p2 p3 p4 p5 p6 c1 c2 c3 c4 c5 c6 W ((hm.below hW).more hW.size) hk (hT.below hW))
 have HM := zrj hm
 have HT := zrj hT
 clear hm hk hT
 by_cases hE : uxj d = 0
 ·have hok := uyt hE
  have hck := HC.out
  rw [hE] at hck
  have HC := zrj hck
  clear hck
  have hw1 : IntKind.i64.wrap (d.upto - d.frm) = d.upto - d.frm := IntWalk.i64_in _ (by have h1 := hok.2.1.1; have h2 := hok.2.1.2; omega)
  have HF := zrj hok.1
  have HU := zrj hok.2.1
  have HJ := zrj hok.2.2.1
  have HN := zrj hok.2.2.2.1
  have HL := zrj hok.2.2.2.2.1
  have HG1 := zrj hok.2.2.2.2.2.1
  have HG2 := zrj hok.2.2.2.2.2.2.1
  have HG3 := zrj hok.2.2.2.2.2.2.2
  have l1 := uqj d.frm.toNat (by have := hok.1.2; omega)
  have l2 := uqj (d.upto - d.frm).toNat (by have := hok.2.1.2; omega)
  have l3 : (rowsB (encJ 3) d.jobs).length <= 10 + 82 * 40 := uvj (fun x hx => vq5 (HJ.out.2 x hx)) HJ.out.1
  have l4 : (rowsB (encN 3) d.nodes).length <= 10 + 62 * 40 := uvj (fun x hx => vq6 (HN.out.2 x hx)) (zrc HN.out.1 (by decide))
  have l5 : (rowsB encL d.leases).length <= 10 + 62 * 40 := uvj (fun x hx => vz8 (HL.out.2 x hx)) HL.out.1
  have l6 : (rowsB encT d.gj).length <= 10 + 26 * 40 := uvj (fun x hx => vz9 (HG1.out.2 x hx)) HG1.out.1
  have l7 : (rowsB encT d.gn).length <= 10 + 26 * 40 := uvj (fun x hx => vz9 (HG2.out.2 x hx)) (zrc HG2.out.1 (by decide))
  have l8 : (rowsB encT d.gl).length <= 10 + 26 * 40 := uvj (fun x hx => vz9 (HG3.out.2 x hx)) HG3.out.1
  have HE0 := zrj hE
  clear hok hE
  have z0 : (((0 : Nat) : Int) != 0) = false := rfl
  go_enter func15, ntmps15
  go_wp2_with (first | (refine uqa rfl _ _ rfl w.heap.size rfl _ _ bx _ underlying49 rfl uqy ?_))
  generalize w.alloc (.cells (dv d p1 p2 p3 p4 p5 p6 c1 c2 c3 c4 c5 c6) 49) = W0 at *
  refine (HC.out W0 hb0).mono ?_
  rintro e w2 ⟨rfl, hb2⟩
  have hB2 := hb0.trans (hb2.mono hb0.size)
  have bx2 := bx.below hb2 bx.lt
  clear hb2 bx hb0 HC
  have bw := Blk.new w2 93 #[.slice none 0 0]
  have hB2a := hB2.alloc hB2.size (.cells #[.slice none 0 0] 93)
  have hsz2 := hB2.size
  have hs2 : (w2.alloc (.cells #[.slice none 0 0] 93)).heap.size = w2.heap.size + 1 := by simp
  have bx2a := bx2.alloc (.cells #[.slice none 0 0] 93)
  have hlx := bx2.lt
  have bp := Blk.new (w2.alloc (.cells #[.slice none 0 0] 93)) 91 #[.pointer (some ⟨w2.heap.size, 0, none⟩)]
  rw [hs2] at bp
  have hB3 := hB2a.alloc hB2a.size (.cells #[.pointer (some ⟨w2.heap.size, 0, none⟩)] 91)
  have bx3 := bx2a.alloc (.cells #[.pointer (some ⟨w2.heap.size, 0, none⟩)] 91)
  have bw3 := bw.alloc (.cells #[.pointer (some ⟨w2.heap.size, 0, none⟩)] 91)
  have hW3 : Wr ((w2.alloc (.cells #[.slice none 0 0] 93)).alloc (.cells #[.pointer (some ⟨w2.heap.size, 0, none⟩)] 91)) w2.heap.size [] := ⟨_, bw3, Buf.nil _ _ _⟩
  have n1 : w.heap.size ≠ w2.heap.size := by omega
  have n3 : w2.heap.size + 1 ≠ w2.heap.size := by omega
  clear bx2 bw bx2a hB2a hs2 hB2 bw3
  have ex : ((w2.alloc (.cells #[.slice none 0 0] 93)).alloc (.cells #[.pointer (some ⟨w2.heap.size, 0, none⟩)] 91)).cell? ⟨w.heap.size, 0, none⟩ = some (.int .i64 d.frm) := bx3.cell 0
  go_wp2_with fail
  generalize (w2.alloc (.cells #[.slice none 0 0] 93)).alloc (.cells #[.pointer (some ⟨w2.heap.size, 0, none⟩)] 91) = w3 at *
  refine (uq2 w2.heap.size [] d.frm w3 hW3 HF.out (by simp)).mono ?_
  rintro e w4 ⟨rfl, h4, B4, K4⟩
  rw [List.nil_append] at h4
  have bx4 := K4 _ _ _ (by decide) n1 bx3
  have bp4 := K4 _ _ _ (by decide) n3 bp
  have hB4 := hB3.trans (B4.mono hsz2)
  clear hB3 bx3 bp B4 K4 hW3 ex
  generalize hu4 : putN d.frm.toNat = u4 at *
  have x0 : w4.cell? ⟨w.heap.size, 0, none⟩ = some (.int .i64 d.frm) := bx4.cell 0
  have x1 : w4.cell? ⟨w.heap.size, 1, none⟩ = some (.int .i64 d.upto) := bx4.cell 1
  have ep : w4.cell? ⟨w2.heap.size + 1, 0, none⟩ = some (.pointer (some ⟨w2.heap.size, 0, none⟩)) := bp4.cell 0
  have H4 := zrj hu4
  clear hu4
  go_wp2_with fail
  refine (uq2 w2.heap.size u4 (d.upto - d.frm) w4 h4 HU.out (by omega)).mono ?_
  rintro e w5 ⟨rfl, h5, B5, K5⟩
  clear x0 x1 ep h4
  have bx5 := K5 _ _ _ (by decide) n1 bx4
  have bp5 := K5 _ _ _ (by decide) n3 bp4
  have hB5 := hB4.trans (B5.mono hsz2)
  clear bx4 bp4 hB4
  obtain ⟨u5, hu5⟩ : ∃ u, u4 ++ putN (d.upto - d.frm).toNat = u := ⟨_, rfl⟩
  rw [hu5] at h5
  have lu5 : u5.length <= 20 := by rw [<- hu5, zrb]; omega
  have H5 := zrj hu5
  clear hu5 B5
  clear K5
  have xs : w5.cell? ⟨w.heap.size, 2, none⟩ = some (.slice p1 d.jobs.length c1) := bx5.cell 2
  have ep : w5.cell? ⟨w2.heap.size + 1, 0, none⟩ = some (.pointer (some ⟨w2.heap.size, 0, none⟩)) := bp5.cell 0
  go_wp2_with fail
  refine (xzn _ (w2.heap.size + 1) w2.heap.size u5 p1 c1 d.jobs w5 bp5 ⟨by decide, n3⟩ h5 ((HM.out.j.below hB5).more hsz2) HJ.out.2 (by have := HJ.out.1; omega) (by omega) (fun w' hb => HT.out.below (hB5.trans (hb.mono hsz2)))).mono ?_
  rintro e w6 ⟨rfl, h6, B6, K6⟩
  clear xs ep h5
  have bx6 := K6 _ _ _ (by decide) n1 bx5
  have bp6 := K6 _ _ _ (by decide) n3 bp5
  have hB6 := hB5.trans (B6.mono hsz2)
  clear bx5 bp5 hB5
  obtain ⟨u6, hu6⟩ : ∃ u, u5 ++ rowsB (encJ 3) d.jobs = u := ⟨_, rfl⟩
  rw [hu6] at h6
  have lu6 : u6.length <= 3310 := by rw [<- hu6, zrb]; omega
  have H6 := zrj hu6
  clear hu6 B6
  clear K6
  have xs : w6.cell? ⟨w.heap.size, 3, none⟩ = some (.slice p2 d.nodes.length c2) := bx6.cell 3
  have ep : w6.cell? ⟨w2.heap.size + 1, 0, none⟩ = some (.pointer (some ⟨w2.heap.size, 0, none⟩)) := bp6.cell 0
  go_wp2_with fail
  refine (xzr _ (w2.heap.size + 1) w2.heap.size u6 p2 c2 d.nodes w6 bp6 ⟨by decide, n3⟩ h6 ((HM.out.n.below hB6).more hsz2) HN.out.2 (by have := HN.out.1; omega) (by omega) (fun w' hb => HT.out.below (hB6.trans (hb.mono hsz2)))).mono ?_
  rintro e w7 ⟨rfl, h7, B7, K7⟩
  clear xs ep h6
  have bx7 := K7 _ _ _ (by decide) n1 bx6
  have bp7 := K7 _ _ _ (by decide) n3 bp6
  have hB7 := hB6.trans (B7.mono hsz2)
  clear bx6 bp6 hB6
  obtain ⟨u7, hu7⟩ : ∃ u, u6 ++ rowsB (encN 3) d.nodes = u := ⟨_, rfl⟩
  rw [hu7] at h7
  have lu7 : u7.length <= 5800 := by rw [<- hu7, zrb]; omega
  have H7 := zrj hu7
  clear hu7 B7
  clear K7
  have xs : w7.cell? ⟨w.heap.size, 4, none⟩ = some (.slice p3 d.leases.length c3) := bx7.cell 4
  have ep : w7.cell? ⟨w2.heap.size + 1, 0, none⟩ = some (.pointer (some ⟨w2.heap.size, 0, none⟩)) := bp7.cell 0
  go_wp2_with fail
  refine (vyq w2.heap.size u7 p3 c3 d.leases w7  h7 ((HM.out.l.below hB7).more hsz2) HL.out.2 (by have := HL.out.1; omega) (by omega) (fun w' hb => HT.out.below (hB7.trans (hb.mono hsz2)))).mono ?_
  rintro e w8 ⟨rfl, h8, B8, K8⟩
  clear xs ep h7
  have bx8 := K8 _ _ _ (by decide) n1 bx7
  have bp8 := K8 _ _ _ (by decide) n3 bp7
  have hB8 := hB7.trans (B8.mono hsz2)
  clear bx7 bp7 hB7
  obtain ⟨u8, hu8⟩ : ∃ u, u7 ++ rowsB encL d.leases = u := ⟨_, rfl⟩
  rw [hu8] at h8
  have lu8 : u8.length <= 8290 := by rw [<- hu8, zrb]; omega
  have H8 := zrj hu8
  clear hu8 B8
  clear K8
  have x5 : w8.cell? ⟨w.heap.size, 5, none⟩ = some (.slice p4 d.gj.length c4) := bx8.cell 5
  have x6 : w8.cell? ⟨w.heap.size, 6, none⟩ = some (.slice p5 d.gn.length c5) := bx8.cell 6
  have x7 : w8.cell? ⟨w.heap.size, 7, none⟩ = some (.slice p6 d.gl.length c6) := bx8.cell 7
  go_wp2_with fail
  have bG := Blk.new w8 29 #[.slice p4 d.gj.length c4, .slice p5 d.gn.length c5, .slice p6 d.gl.length c6]
  have h9 := h8.below ((zri _ _).alloc (zra _) (.cells #[.slice p4 d.gj.length c4, .slice p5 d.gn.length c5, .slice p6 d.gl.length c6] 29))
  have hB9 := hB8.alloc hB8.size (.cells #[.slice p4 d.gj.length c4, .slice p5 d.gn.length c5, .slice p6 d.gl.length c6] 29)
  have bp9 := bp8.alloc (.cells #[.slice p4 d.gj.length c4, .slice p5 d.gn.length c5, .slice p6 d.gl.length c6] 29)
  have hgl : w2.heap.size < w8.heap.size := h8.lt
  have n4 : w8.heap.size ≠ w2.heap.size := by omega
  clear x5 x6 x7 h8 hB8 bp8 bx8
  generalize w8.alloc (.cells #[.slice p4 d.gj.length c4, .slice p5 d.gn.length c5, .slice p6 d.gl.length c6] 29) = w9 at *
  generalize w8.heap.size = gg at *
  refine wp_loop_rounds 4 ?_
  rw [rounds_succ]
  have xs : w9.cell? ⟨gg, 0, none⟩ = some (.slice p4 d.gj.length c4) := bG.cell 0
  have ep : w9.cell? ⟨w2.heap.size + 1, 0, none⟩ = some (.pointer (some ⟨w2.heap.size, 0, none⟩)) := bp9.cell 0
  go_wp2_with fail
  refine (vys w2.heap.size u8 p4 c4 d.gj w9 h9 ((HM.out.gj.below hB9).more hsz2) HG1.out.2 (by have := HG1.out.1; omega) (by omega) (fun w' hb => HT.out.below (hB9.trans (hb.mono hsz2)))).mono ?_
  rintro e w10 ⟨rfl, h10, B10, K10⟩
  clear xs ep h9
  have bG := K10 _ _ _ (by decide) n4 bG
  have bp10 := K10 _ _ _ (by decide) n3 bp9
  have hB10 := hB9.trans (B10.mono hsz2)
  clear bp9 hB9
  obtain ⟨u10, hu10⟩ : ∃ u, u8 ++ rowsB encT d.gj = u := ⟨_, rfl⟩
  rw [hu10] at h10
  have lu10 : u10.length <= 9340 := by rw [<- hu10, zrb]; omega
  have H10 := zrj hu10
  clear hu10 B10 K10
  go_wp2_with fail
  rw [rounds_succ]
  have xs : w10.cell? ⟨gg, 1, none⟩ = some (.slice p5 d.gn.length c5) := bG.cell 1
  have ep : w10.cell? ⟨w2.heap.size + 1, 0, none⟩ = some (.pointer (some ⟨w2.heap.size, 0, none⟩)) := bp10.cell 0
  go_wp2_with fail
  refine (vys w2.heap.size u10 p5 c5 d.gn w10 h10 ((HM.out.gn.below hB10).more hsz2) HG2.out.2 (by have := HG2.out.1; omega) (by omega) (fun w' hb => HT.out.below (hB10.trans (hb.mono hsz2)))).mono ?_
  rintro e w11 ⟨rfl, h11, B11, K11⟩
  clear xs ep h10
  have bG := K11 _ _ _ (by decide) n4 bG
  have bp11 := K11 _ _ _ (by decide) n3 bp10
  have hB11 := hB10.trans (B11.mono hsz2)
  clear bp10 hB10
  obtain ⟨u11, hu11⟩ : ∃ u, u10 ++ rowsB encT d.gn = u := ⟨_, rfl⟩
  rw [hu11] at h11
  have lu11 : u11.length <= 10390 := by rw [<- hu11, zrb]; omega
  have H11 := zrj hu11
  clear hu11 B11 K11
  go_wp2_with fail
  rw [rounds_succ]
  have xs : w11.cell? ⟨gg, 2, none⟩ = some (.slice p6 d.gl.length c6) := bG.cell 2
  have ep : w11.cell? ⟨w2.heap.size + 1, 0, none⟩ = some (.pointer (some ⟨w2.heap.size, 0, none⟩)) := bp11.cell 0
  go_wp2_with fail
  refine (vys w2.heap.size u11 p6 c6 d.gl w11 h11 ((HM.out.gl.below hB11).more hsz2) HG3.out.2 (by have := HG3.out.1; omega) (by omega) (fun w' hb => HT.out.below (hB11.trans (hb.mono hsz2)))).mono ?_
  rintro e w12 ⟨rfl, h12, B12, K12⟩
  clear xs ep h11
  have bG := K12 _ _ _ (by decide) n4 bG
  have bp12 := K12 _ _ _ (by decide) n3 bp11
  have hB12 := hB11.trans (B12.mono hsz2)
  clear bp11 hB11
  obtain ⟨u12, hu12⟩ : ∃ u, u11 ++ rowsB encT d.gl = u := ⟨_, rfl⟩
  rw [hu12] at h12
  have lu12 : u12.length <= 11440 := by rw [<- hu12, zrb]; omega
  have H12 := zrj hu12
  clear hu12 B12 K12
  go_wp2_with fail
  rw [rounds_succ]
  have hu : u12 = encD d := by rw [<- H12.out, <- H11.out, <- H10.out, <- H8.out, <- H7.out, <- H6.out, <- H5.out, <- H4.out]; unfold encD; simp only [zrh]
  rw [hu] at h12
  clear hu
  have HO := zrj (show encDR d = if 6000 < (encD d).length then ([], 2) else (encD d, 0) from by unfold encDR; rw [if_neg (by rw [HE0.out]; simp)])
  generalize encD d = out at *
  have ep : w12.cell? ⟨w2.heap.size + 1, 0, none⟩ = some (.pointer (some ⟨w2.heap.size, 0, none⟩)) := bp12.cell 0
  obtain ⟨vv, bw7, hv7⟩ := h12
  obtain ⟨pa, ca, rfl⟩ := hv7.form
  have ew : w12.cell? ⟨w2.heap.size, 0, none⟩ = some (.slice pa out.length ca) := bw7.cell 0
  have hcv := uzj (P := prog) (U := 5) (src := 86) (dst := 9) underlying86 underlying5 underlying9 hv7
  have HBz := zrj hB12
  clear hB12 bw7 hv7 bG bp12 H4 H5 H6 H7 H8 H10 H11 H12
  by_cases hbig : 6000 < out.length
  ·have hbi : (6000 : Int) < (out.length : Int) := by omega
   rw [if_pos hbig] at HO
   clear hbig
   go_wp2_with fail
   go_ret2
   exact ⟨by rw [HO.out]; rfl, HBz.out⟩
  ·have hbi : ¬ (6000 : Int) < (out.length : Int) := by omega
   have hbd : decide ((6000 : Int) < (out.length : Int)) = false := decide_eq_false hbi
   rw [if_neg hbig] at HO
   clear hbig
   go_wp2_with fail
   go_ret2
   exact ⟨by rw [HO.out]; rfl, HBz.out⟩
 ·have HO := zrj (show encDR d = ([], uxj d) from by unfold encDR; rw [if_pos hE])
  have hne : ((uxj d : Int) != 0) = true := by rw [bne_iff_ne]; omega
  generalize uxj d = er at *
  clear hE
  go_enter func15, ntmps15
  go_wp2_with (first | (refine uqa rfl _ _ rfl w.heap.size rfl _ _ bx _ underlying49 rfl uqy ?_))
  refine (HC.out _ hb0).mono ?_
  rintro e w2 ⟨rfl, hb2⟩
  have hB2 := hb0.trans (hb2.mono hb0.size)
  go_wp2_with fail
  go_ret2
  exact ⟨by rw [HO.out]; rfl, hB2⟩
end Go.Proofs.YtibiankbmhdljabGreatDoor
