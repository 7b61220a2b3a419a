/-
  Several texts in one: ApplyP, ApplyWh.
-/
import Derived.Test.YtibiankbmhdljabGreatDoorPgChgA
set_option linter.all false
set_option maxHeartbeats 16000000
set_option maxRecDepth 100000
namespace Go.Proofs.YtibiankbmhdljabGreatDoor
open Go.Proofs.Tryz
open Go.RowKit
def chgT (s : St) (d : uq1) : St := ⟨d.upto, chgR JobD.name s.jobs d.jobs d.gj, chgR NodeD.name s.nodes d.nodes d.gn, chgR uqf.job s.leases d.leases d.gl⟩
theorem vwy {α : Type} {key : α -> ByteArray} {rows set : List α} {gone : List ByteArray} {x : α} (h : x ∈ chgR key rows set gone) : x ∈ rows ∨ x ∈ set := by
 unfold chgR at h
 split at h
 ·have := (List.mergeSort_perm _ _).mem_iff.1 h
  rcases List.mem_append.1 this with h | h
  ·exact .inl (List.mem_filter.1 h).1
  ·exact .inr h
 ·cases h
theorem vwx {α : Type} {key : α -> ByteArray} {rows set : List α} {gone : List ByteArray} : (chgR key rows set gone).length <= rows.length + set.length := by
 unfold chgR
 split
 ·exact chgL_len
 ·exact Nat.zero_le _
theorem chgT_sz {s : St} {d : uq1} (hs : StSz s) (hd : DelOk d) (hr : ∀ x ∈ d.nodes, -9223372036854775808 <= x.room ∧ x.room <= 9223372036854775807) (l1 : s.jobs.length <= 1000) (l2 : s.nodes.length <= 1000) (l3 : s.leases.length <= 1000) (m1 : d.jobs.length <= 1000) (m2 : d.nodes.length <= 1000) (m3 : d.leases.length <= 1000) : StSz (chgT s d) where
 j := fun x hx => (vwy hx).elim (hs.j x) (hd.j x)
 n := fun x hx => (vwy hx).elim (hs.n x) (hd.n x)
 nr := fun x hx => (vwy hx).elim (hs.nr x) (hr x)
 lj := zrc vwx (by omega)
 ln := zrc vwx (by omega)
 ll := zrc vwx (by omega)
theorem chgT_all {s : St} {d : uq1} (h1 : chgB JobD.name s.jobs d.gj = true) (h2 : chgB NodeD.name s.nodes d.gn = true) (h3 : chgB uqf.job s.leases d.gl = true) : chgT s d = chgSt s d ∧ vqf s d = true := by
 unfold chgT chgSt chgR vqf
 rw [h1, h2, h3]
 exact ⟨rfl, rfl⟩
structure NewR (B : Nat) (q1 q2 q3 : Option Addr) : Prop where
  a : ∀ x, q1 = some x -> B <= x.block
  b : ∀ x, q2 = some x -> B <= x.block
  c : ∀ x, q3 = some x -> B <= x.block
theorem NewR.nil (B : Nat) : NewR B none none none := ⟨by simp, by simp, by simp⟩
theorem OwnR.new {w : World} {base c size B : Nat} {E : TypeId} {p : Option Addr} {rows : List (List Value)} (h : OwnR w base E size p c rows) (hb : B <= base) : ∀ x, p = some x -> B <= x.block := fun x hx => by
  subst hx
  have := (World.ownsRow.lt h.2 x.block rfl).1
  omega
theorem ujt {w : World} {n : Nat} (h : w.heap.size = n) (t : TypeId) (cs : Array Value) : Blk (w.alloc (.cells cs t)) n t cs := h ▸ Blk.new w t cs
theorem wv3 (s : St) (d : uq1) (p1 p2 p3 : Option Addr) (c1 c2 c3 : Nat) (r1 r2 r3 r4 r5 r6 : Option Addr) (e1 e2 e3 e4 e5 e6 : Nat) (w : World) (hm : StM w w.heap.size p1 p2 p3 s) (hd : DelM w w.heap.size r1 r2 r3 r4 r5 r6 d) (hz : StSz s) (hk : DelOk d) (hT : Tabs w) (hc : uqq s ≠ 0) :
    Calls prog 62 #[.agg (stv s p1 p2 p3 c1 c2 c3), .agg (dv d r1 r2 r3 r4 r5 r6 e1 e2 e3 e4 e5 e6)] w fun e w' => ∃ q1 q2 q3 d1 d2 d3, e = .returned (.tuple #[.agg #[.int .i64 (⟨0, [], [], []⟩ : St).rev, .slice q1 (⟨0, [], [], []⟩ : St).jobs.length d1, .slice q2 (⟨0, [], [], []⟩ : St).nodes.length d2, .slice q3 (⟨0, [], [], []⟩ : St).leases.length d3], .int .i64 ((uqq s : Nat) : Int)]) ∧ StM w' w'.heap.size q1 q2 q3 (⟨0, [], [], []⟩ : St) ∧ Below w.heap.size w w' ∧ NewR w.heap.size q1 q2 q3 := by
  have hzs := uxa
  have hw1 : (w.alloc (.cells (stv s p1 p2 p3 c1 c2 c3) 35)).heap.size = w.heap.size + 1 := by simp
  have hw2 : ((w.alloc (.cells (stv s p1 p2 p3 c1 c2 c3) 35)).alloc (.cells (dv d r1 r2 r3 r4 r5 r6 e1 e2 e3 e4 e5 e6) 49)).heap.size = w.heap.size + 2 := by simp
  have bS := ((Blk.new w 35 (stv s p1 p2 p3 c1 c2 c3)).alloc (.cells (dv d r1 r2 r3 r4 r5 r6 e1 e2 e3 e4 e5 e6) 49)).alloc (.cells zsv 35)
  have bD := (ujt hw1 49 (dv d r1 r2 r3 r4 r5 r6 e1 e2 e3 e4 e5 e6)).alloc (.cells zsv 35)
  have bZ := ujt hw2 35 zsv
  have hB0 : Below w.heap.size w (((w.alloc (.cells (stv s p1 p2 p3 c1 c2 c3) 35)).alloc (.cells (dv d r1 r2 r3 r4 r5 r6 e1 e2 e3 e4 e5 e6) 49)).alloc (.cells zsv 35)) := (((zri _ _).alloc (zra _) _).alloc (by simp) _).alloc (by simp; omega) _
  have HC := zrj (fun (W : World) (hW : Below w.heap.size w W) => ux2 s p1 p2 p3 c1 c2 c3 W ((hm.below hW).more hW.size) hz (hT.below hW))
  have HD := zrj (fun (W : World) (hW : Below w.heap.size w W) => uvd d r1 r2 r3 r4 r5 r6 e1 e2 e3 e4 e5 e6 W ((hd.below hW).more hW.size) hk (hT.below hW))
  have z0 : (((0 : Nat) : Int) != 0) = false := rfl
  clear hw1 hw2
  have hne : ((uqq s : Int) != 0) = true := by rw [bne_iff_ne]; omega
  generalize uqq s = ce at *
  clear hm hd hz hk hT hc HD
  go_enter func62, ntmps62
  go_upto_region 1 with fail
  generalize ((w.alloc (.cells (stv s p1 p2 p3 c1 c2 c3) 35)).alloc (.cells (dv d r1 r2 r3 r4 r5 r6 e1 e2 e3 e4 e5 e6) 49)).alloc _ = w0 at *
  have hB00 := hB0; have bS0 := bS; have bD0 := bD; have bZ0 := bZ; clear bS bD bZ hB00
  go_wp2_with (first | (refine uqa rfl _ _ rfl w.heap.size rfl _ _ bS0 _ underlying35 rfl uqg ?_))
  refine (HC.out _ hB0).mono ?_
  rintro e w1 ⟨rfl, hb1⟩
  have hB1 := hB0.trans (hb1.mono hB0.size)
  have bS1 := bS0.below hb1 bS0.lt
  have bD1 := bD0.below hb1 bD0.lt
  have bZ1 := bZ0.below hb1 bZ0.lt
  clear hb1 bS0 bD0 bZ0 hB0
  go_wp2_with (first | (refine uqc rfl _ _ _ rfl (w.heap.size + 2) rfl _ _ zsv bZ1 rfl uqg rfl (uxq _ _ _ _ _ _ _ _ _ _) ?_))
  refine bodyPost_ret (uqi rfl _ rfl (bZ1.setRow zsv) underlying35 rfl uqg) rfl ?_
  exact ⟨none, none, none, 0, 0, 0, rfl, ⟨.nil_, .nil_, .nil_⟩, uqh hB1 (by omega) _, NewR.nil _⟩
theorem wv4 (s : St) (d : uq1) (p1 p2 p3 : Option Addr) (c1 c2 c3 : Nat) (r1 r2 r3 r4 r5 r6 : Option Addr) (e1 e2 e3 e4 e5 e6 : Nat) (w : World) (hm : StM w w.heap.size p1 p2 p3 s) (hd : DelM w w.heap.size r1 r2 r3 r4 r5 r6 d) (hz : StSz s) (hk : DelOk d) (hT : Tabs w) (hc : uqq s = 0) (hc2 : uxj d ≠ 0) :
    Calls prog 62 #[.agg (stv s p1 p2 p3 c1 c2 c3), .agg (dv d r1 r2 r3 r4 r5 r6 e1 e2 e3 e4 e5 e6)] w fun e w' => ∃ q1 q2 q3 d1 d2 d3, e = .returned (.tuple #[.agg #[.int .i64 (⟨0, [], [], []⟩ : St).rev, .slice q1 (⟨0, [], [], []⟩ : St).jobs.length d1, .slice q2 (⟨0, [], [], []⟩ : St).nodes.length d2, .slice q3 (⟨0, [], [], []⟩ : St).leases.length d3], .int .i64 ((uxj d : Nat) : Int)]) ∧ StM w' w'.heap.size q1 q2 q3 (⟨0, [], [], []⟩ : St) ∧ Below w.heap.size w w' ∧ NewR w.heap.size q1 q2 q3 := by
  have hzs := uxa
  have hw1 : (w.alloc (.cells (stv s p1 p2 p3 c1 c2 c3) 35)).heap.size = w.heap.size + 1 := by simp
  have hw2 : ((w.alloc (.cells (stv s p1 p2 p3 c1 c2 c3) 35)).alloc (.cells (dv d r1 r2 r3 r4 r5 r6 e1 e2 e3 e4 e5 e6) 49)).heap.size = w.heap.size + 2 := by simp
  have bS := ((Blk.new w 35 (stv s p1 p2 p3 c1 c2 c3)).alloc (.cells (dv d r1 r2 r3 r4 r5 r6 e1 e2 e3 e4 e5 e6) 49)).alloc (.cells zsv 35)
  have bD := (ujt hw1 49 (dv d r1 r2 r3 r4 r5 r6 e1 e2 e3 e4 e5 e6)).alloc (.cells zsv 35)
  have bZ := ujt hw2 35 zsv
  have hB0 : Below w.heap.size w (((w.alloc (.cells (stv s p1 p2 p3 c1 c2 c3) 35)).alloc (.cells (dv d r1 r2 r3 r4 r5 r6 e1 e2 e3 e4 e5 e6) 49)).alloc (.cells zsv 35)) := (((zri _ _).alloc (zra _) _).alloc (by simp) _).alloc (by simp; omega) _
  have HC := zrj (fun (W : World) (hW : Below w.heap.size w W) => ux2 s p1 p2 p3 c1 c2 c3 W ((hm.below hW).more hW.size) hz (hT.below hW))
  have HD := zrj (fun (W : World) (hW : Below w.heap.size w W) => uvd d r1 r2 r3 r4 r5 r6 e1 e2 e3 e4 e5 e6 W ((hd.below hW).more hW.size) hk (hT.below hW))
  have z0 : (((0 : Nat) : Int) != 0) = false := rfl
  clear hw1 hw2
  have hne : ((uxj d : Int) != 0) = true := by rw [bne_iff_ne]; omega
  rw [hc] at HC
  generalize uxj d = ce at *
  clear hm hd hz hk hT hc hc2
  go_enter func62, ntmps62
  go_upto_region 1 with fail
  generalize ((w.alloc (.cells (stv s p1 p2 p3 c1 c2 c3) 35)).alloc (.cells (dv d r1 r2 r3 r4 r5 r6 e1 e2 e3 e4 e5 e6) 49)).alloc _ = w0 at *
  have bS0 := bS; have bD0 := bD; have bZ0 := bZ; clear bS bD bZ
  go_wp2_with (first | (refine uqa rfl _ _ rfl w.heap.size rfl _ _ bS0 _ underlying35 rfl uqg ?_))
  refine (HC.out _ hB0).mono ?_
  rintro e w1 ⟨rfl, hb1⟩
  have hB1 := hB0.trans (hb1.mono hB0.size)
  have bS1 := bS0.below hb1 bS0.lt
  have bD1 := bD0.below hb1 bD0.lt
  have bZ1 := bZ0.below hb1 bZ0.lt
  clear hb1 bS0 bD0 bZ0 hB0
  go_wp2_with (first | (refine uqa rfl _ _ rfl (w.heap.size + 1) rfl _ _ bD1 _ underlying49 rfl uqy ?_))
  refine (HD.out _ hB1).mono ?_
  rintro e w2 ⟨rfl, hb2⟩
  have hB2 := hB1.trans (hb2.mono hB1.size)
  have bS2 := bS1.below hb2 bS1.lt
  have bD2 := bD1.below hb2 bD1.lt
  have bZ2 := bZ1.below hb2 bZ1.lt
  clear hb2 bS1 bD1 bZ1 hB1
  go_wp2_with (first | (refine uqc rfl _ _ _ rfl (w.heap.size + 2) rfl _ _ zsv bZ2 rfl uqg rfl (uxq _ _ _ _ _ _ _ _ _ _) ?_))
  refine bodyPost_ret (uqi rfl _ rfl (bZ2.setRow zsv) underlying35 rfl uqg) rfl ?_
  exact ⟨none, none, none, 0, 0, 0, rfl, ⟨.nil_, .nil_, .nil_⟩, uqh hB2 (by omega) _, NewR.nil _⟩
theorem xqi (s : St) (d : uq1) (p1 p2 p3 : Option Addr) (c1 c2 c3 : Nat) (r1 r2 r3 r4 r5 r6 : Option Addr) (e1 e2 e3 e4 e5 e6 : Nat) (w : World) (hm : StM w w.heap.size p1 p2 p3 s) (hd : DelM w w.heap.size r1 r2 r3 r4 r5 r6 d) (hz : StSz s) (hk : DelOk d) (hT : Tabs w) (hc : uqq s = 0) (hc2 : uxj d = 0) (hf : d.frm ≠ s.rev) :
    Calls prog 62 #[.agg (stv s p1 p2 p3 c1 c2 c3), .agg (dv d r1 r2 r3 r4 r5 r6 e1 e2 e3 e4 e5 e6)] w fun e w' => ∃ q1 q2 q3 d1 d2 d3, e = .returned (.tuple #[.agg #[.int .i64 (⟨0, [], [], []⟩ : St).rev, .slice q1 (⟨0, [], [], []⟩ : St).jobs.length d1, .slice q2 (⟨0, [], [], []⟩ : St).nodes.length d2, .slice q3 (⟨0, [], [], []⟩ : St).leases.length d3], .int .i64 ((10 : Nat) : Int)]) ∧ StM w' w'.heap.size q1 q2 q3 (⟨0, [], [], []⟩ : St) ∧ Below w.heap.size w w' ∧ NewR w.heap.size q1 q2 q3 := by
  have hzs := uxa
  have hw1 : (w.alloc (.cells (stv s p1 p2 p3 c1 c2 c3) 35)).heap.size = w.heap.size + 1 := by simp
  have hw2 : ((w.alloc (.cells (stv s p1 p2 p3 c1 c2 c3) 35)).alloc (.cells (dv d r1 r2 r3 r4 r5 r6 e1 e2 e3 e4 e5 e6) 49)).heap.size = w.heap.size + 2 := by simp
  have bS := ((Blk.new w 35 (stv s p1 p2 p3 c1 c2 c3)).alloc (.cells (dv d r1 r2 r3 r4 r5 r6 e1 e2 e3 e4 e5 e6) 49)).alloc (.cells zsv 35)
  have bD := (ujt hw1 49 (dv d r1 r2 r3 r4 r5 r6 e1 e2 e3 e4 e5 e6)).alloc (.cells zsv 35)
  have bZ := ujt hw2 35 zsv
  have hB0 : Below w.heap.size w (((w.alloc (.cells (stv s p1 p2 p3 c1 c2 c3) 35)).alloc (.cells (dv d r1 r2 r3 r4 r5 r6 e1 e2 e3 e4 e5 e6) 49)).alloc (.cells zsv 35)) := (((zri _ _).alloc (zra _) _).alloc (by simp) _).alloc (by simp; omega) _
  have HC := zrj (fun (W : World) (hW : Below w.heap.size w W) => ux2 s p1 p2 p3 c1 c2 c3 W ((hm.below hW).more hW.size) hz (hT.below hW))
  have HD := zrj (fun (W : World) (hW : Below w.heap.size w W) => uvd d r1 r2 r3 r4 r5 r6 e1 e2 e3 e4 e5 e6 W ((hd.below hW).more hW.size) hk (hT.below hW))
  have z0 : (((0 : Nat) : Int) != 0) = false := rfl
  clear hw1 hw2
  rw [hc] at HC
  rw [hc2] at HD
  have hne : (d.frm != s.rev) = true := by rw [bne_iff_ne]; exact hf
  clear hm hd hz hk hT hc hc2 hf
  go_enter func62, ntmps62
  go_upto_region 1 with fail
  generalize ((w.alloc (.cells (stv s p1 p2 p3 c1 c2 c3) 35)).alloc (.cells (dv d r1 r2 r3 r4 r5 r6 e1 e2 e3 e4 e5 e6) 49)).alloc _ = w0 at *
  have bS0 := bS; have bD0 := bD; have bZ0 := bZ; clear bS bD bZ
  go_wp2_with (first | (refine uqa rfl _ _ rfl w.heap.size rfl _ _ bS0 _ underlying35 rfl uqg ?_))
  refine (HC.out _ hB0).mono ?_
  rintro e w1 ⟨rfl, hb1⟩
  have hB1 := hB0.trans (hb1.mono hB0.size)
  have bS1 := bS0.below hb1 bS0.lt
  have bD1 := bD0.below hb1 bD0.lt
  have bZ1 := bZ0.below hb1 bZ0.lt
  clear hb1 bS0 bD0 bZ0 hB0
  go_wp2_with (first | (refine uqa rfl _ _ rfl (w.heap.size + 1) rfl _ _ bD1 _ underlying49 rfl uqy ?_))
  refine (HD.out _ hB1).mono ?_
  rintro e w2 ⟨rfl, hb2⟩
  have hB2 := hB1.trans (hb2.mono hB1.size)
  have bS2 := bS1.below hb2 bS1.lt
  have bD2 := bD1.below hb2 bD1.lt
  have bZ2 := bZ1.below hb2 bZ1.lt
  clear hb2 bS1 bD1 bZ1 hB1
  have x0 : w2.cell? ⟨w.heap.size, 0, none⟩ = some (.int .i64 s.rev) := bS2.cell 0
  have x1 : w2.cell? ⟨w.heap.size + 1, 0, none⟩ = some (.int .i64 d.frm) := bD2.cell 0
  go_wp2_with (first | (refine uqc rfl _ _ _ rfl (w.heap.size + 2) rfl _ _ zsv bZ2 rfl uqg rfl (uxq _ _ _ _ _ _ _ _ _ _) ?_))
  refine bodyPost_ret (uqi rfl _ rfl (bZ2.setRow zsv) underlying35 rfl uqg) rfl ?_
  exact ⟨none, none, none, 0, 0, 0, rfl, ⟨.nil_, .nil_, .nil_⟩, uqh hB2 (by omega) _, NewR.nil _⟩
theorem wv5 (s : St) (d : uq1) (p1 p2 p3 : Option Addr) (c1 c2 c3 : Nat) (r1 r2 r3 r4 r5 r6 : Option Addr) (e1 e2 e3 e4 e5 e6 : Nat) (w : World) (hm : StM w w.heap.size p1 p2 p3 s) (hd : DelM w w.heap.size r1 r2 r3 r4 r5 r6 d) (hz : StSz s) (hk : DelOk d) (hT : Tabs w) (hc : uqq s = 0) (hc2 : uxj d = 0) (hf : d.frm = s.rev) :
    Calls prog 62 #[.agg (stv s p1 p2 p3 c1 c2 c3), .agg (dv d r1 r2 r3 r4 r5 r6 e1 e2 e3 e4 e5 e6)] w fun e w' => ∃ q1 q2 q3 d1 d2 d3, e = .returned (.tuple #[.agg #[.int .i64 (uz2 s d).rev, .slice q1 (uz2 s d).jobs.length d1, .slice q2 (uz2 s d).nodes.length d2, .slice q3 (uz2 s d).leases.length d3], .int .i64 ((uzv s d : Nat) : Int)]) ∧ StM w' w'.heap.size q1 q2 q3 (uz2 s d) ∧ Below w.heap.size w w' ∧ NewR w.heap.size q1 q2 q3 := by
  have hzs := uxa
  have hw1 : (w.alloc (.cells (stv s p1 p2 p3 c1 c2 c3) 35)).heap.size = w.heap.size + 1 := by simp
  have hw2 : ((w.alloc (.cells (stv s p1 p2 p3 c1 c2 c3) 35)).alloc (.cells (dv d r1 r2 r3 r4 r5 r6 e1 e2 e3 e4 e5 e6) 49)).heap.size = w.heap.size + 2 := by simp
  have bS := ((Blk.new w 35 (stv s p1 p2 p3 c1 c2 c3)).alloc (.cells (dv d r1 r2 r3 r4 r5 r6 e1 e2 e3 e4 e5 e6) 49)).alloc (.cells zsv 35)
  have bD := (ujt hw1 49 (dv d r1 r2 r3 r4 r5 r6 e1 e2 e3 e4 e5 e6)).alloc (.cells zsv 35)
  have bZ := ujt hw2 35 zsv
  have hB0 : Below w.heap.size w (((w.alloc (.cells (stv s p1 p2 p3 c1 c2 c3) 35)).alloc (.cells (dv d r1 r2 r3 r4 r5 r6 e1 e2 e3 e4 e5 e6) 49)).alloc (.cells zsv 35)) := (((zri _ _).alloc (zra _) _).alloc (by simp) _).alloc (by simp; omega) _
  have HC := zrj (fun (W : World) (hW : Below w.heap.size w W) => ux2 s p1 p2 p3 c1 c2 c3 W ((hm.below hW).more hW.size) hz (hT.below hW))
  have HD := zrj (fun (W : World) (hW : Below w.heap.size w W) => uvd d r1 r2 r3 r4 r5 r6 e1 e2 e3 e4 e5 e6 W ((hd.below hW).more hW.size) hk (hT.below hW))
  have z0 : (((0 : Nat) : Int) != 0) = false := rfl
  clear hw1 hw2
  rw [hc] at HC
  rw [hc2] at HD
  have hne : (d.frm != s.rev) = false := by rw [hf]; simp
  have F := (uxm s).1 hc
  have G := xq7 hc2
  have hA : uzv s d = if vqf s d = true then uqq (chgSt s d) else 6 := by unfold uzv; rw [if_neg (by simpa using hc), if_neg (by simpa using hc2), if_neg (by simpa using hf)]
  have hAS : uz2 s d = if uzv s d = 0 then chgSt s d else ⟨0, [], [], []⟩ := rfl
  have nroom : ∀ x ∈ d.nodes, -9223372036854775808 <= x.room ∧ x.room <= 9223372036854775807 := fun x hx => by have := (uji.1 (G.n.1 x hx)).2; omega
  have hsz := chgT_sz hz hk nroom (by have := F.nj; omega) (by have := F.nn; omega) (by have := F.nl; omega) (by have := G.lj; omega) (by have := G.ln; omega) (by have := G.ll; omega)
  have HJ := zrj (show ∀ (W : World) (hW : Below w.heap.size w W), Calls prog 120 #[.slice p1 s.jobs.length c1, .slice r1 d.jobs.length e1, .slice r4 d.gj.length e4, .func (.func 71) #[] #[]] W (fun e w' => ∃ p c, e = .returned (.tuple #[.slice p (chgT s d).jobs.length c, .bool (chgB JobD.name s.jobs d.gj)]) ∧ OwnR w' W.heap.size 62 5 p c ((chgT s d).jobs.map rowJ) ∧ Below W.heap.size W w') from fun W hW => wqf s.jobs d.jobs d.gj p1 r1 r4 c1 e1 e4 W ((hm.j.below hW).more hW.size) ((hd.j.below hW).more hW.size) ((hd.gj.below hW).more hW.size) (by have := F.nj; omega) (by have := G.lj; omega) (by have := G.gj; omega) F.sj G.j.2 G.hj.2 (fun x hx => uxg (uyj (F.j x hx))) (fun x hx => uxg (uyj (G.j.1 x hx))) (fun x hx => uxg (G.hj.1 x hx).1))
  have HN := zrj (show ∀ (W : World) (hW : Below w.heap.size w W), Calls prog 121 #[.slice p2 s.nodes.length c2, .slice r2 d.nodes.length e2, .slice r5 d.gn.length e5, .func (.func 74) #[] #[]] W (fun e w' => ∃ p c, e = .returned (.tuple #[.slice p (chgT s d).nodes.length c, .bool (chgB NodeD.name s.nodes d.gn)]) ∧ OwnR w' W.heap.size 64 3 p c ((chgT s d).nodes.map rowN) ∧ Below W.heap.size W w') from fun W hW => wqh s.nodes d.nodes d.gn p2 r2 r5 c2 e2 e5 W ((hm.n.below hW).more hW.size) ((hd.n.below hW).more hW.size) ((hd.gn.below hW).more hW.size) (by have := F.nn; omega) (by have := G.ln; omega) (by have := G.gn; omega) F.sn G.n.2 G.hn.2 (fun x hx => uxg (uy6 (F.n x hx))) (fun x hx => uxg (uy6 (G.n.1 x hx))) (fun x hx => uxg (G.hn.1 x hx).1))
  have HL := zrj (show ∀ (W : World) (hW : Below w.heap.size w W), Calls prog 122 #[.slice p3 s.leases.length c3, .slice r3 d.leases.length e3, .slice r6 d.gl.length e6, .func (.func 77) #[] #[]] W (fun e w' => ∃ p c, e = .returned (.tuple #[.slice p (chgT s d).leases.length c, .bool (chgB uqf.job s.leases d.gl)]) ∧ OwnR w' W.heap.size 66 3 p c ((chgT s d).leases.map rowL) ∧ Below W.heap.size W w') from fun W hW => wqg s.leases d.leases d.gl p3 r3 r6 c3 e3 e6 W ((hm.l.below hW).more hW.size) ((hd.l.below hW).more hW.size) ((hd.gl.below hW).more hW.size) (by have := F.nl; omega) (by have := G.ll; omega) (by have := G.gl; omega) F.sl G.l.2 G.hl.2 (fun x hx => uxg (vxg (vyj F hx)).1) (fun x hx => uxg (vxg (G.l.1 x hx)).1) (fun x hx => uxg (G.hl.1 x hx).1))
  have hall : chgB JobD.name s.jobs d.gj = true -> chgB NodeD.name s.nodes d.gn = true -> chgB uqf.job s.leases d.gl = true -> chgT s d = chgSt s d ∧ vqf s d = true := chgT_all
  have hnot : (chgB JobD.name s.jobs d.gj && chgB NodeD.name s.nodes d.gn && chgB uqf.job s.leases d.gl) = vqf s d := rfl
  have hup : (chgT s d).rev = d.upto := rfl
  generalize chgT s d = t at *
  generalize chgB JobD.name s.jobs d.gj = B1 at *
  generalize chgB NodeD.name s.nodes d.gn = B2 at *
  generalize chgB uqf.job s.leases d.gl = B3 at *
  have HSZ := zrj hsz
  have HA := zrj hA
  have HAS := zrj hAS
  have HALL := zrj hall
  have HNOT := zrj hnot
  have HT := zrj hT
  clear hm hd hz hk hT hc hc2 hf F G nroom hsz hA hAS hall hnot
  go_enter func62, ntmps62
  go_upto_region 1 with fail
  generalize ((w.alloc (.cells (stv s p1 p2 p3 c1 c2 c3) 35)).alloc (.cells (dv d r1 r2 r3 r4 r5 r6 e1 e2 e3 e4 e5 e6) 49)).alloc _ = w0 at *
  have bS0 := bS; have bD0 := bD; have bZ0 := bZ; clear bS bD bZ
  go_wp2_with (first | (refine uqa rfl _ _ rfl w.heap.size rfl _ _ bS0 _ underlying35 rfl uqg ?_))
  refine (HC.out _ hB0).mono ?_
  rintro e w1 ⟨rfl, hb1⟩
  have hB1 := hB0.trans (hb1.mono hB0.size)
  have bS1 := bS0.below hb1 bS0.lt
  have bD1 := bD0.below hb1 bD0.lt
  have bZ1 := bZ0.below hb1 bZ0.lt
  clear hb1 bS0 bD0 bZ0 hB0
  go_wp2_with (first | (refine uqa rfl _ _ rfl (w.heap.size + 1) rfl _ _ bD1 _ underlying49 rfl uqy ?_))
  refine (HD.out _ hB1).mono ?_
  rintro e w2 ⟨rfl, hb2⟩
  have hB2 := hB1.trans (hb2.mono hB1.size)
  have bS2 := bS1.below hb2 bS1.lt
  have bD2 := bD1.below hb2 bD1.lt
  have bZ2 := bZ1.below hb2 bZ1.lt
  clear hb2 bS1 bD1 bZ1 hB1
  have x0 : w2.cell? ⟨w.heap.size, 0, none⟩ = some (.int .i64 s.rev) := bS2.cell 0
  have x1 : w2.cell? ⟨w.heap.size + 1, 0, none⟩ = some (.int .i64 d.frm) := bD2.cell 0
  have x2 : w2.cell? ⟨w.heap.size + 1, 1, none⟩ = some (.int .i64 d.upto) := bD2.cell 1
  go_upto_region 11 with (first | (refine uqd rfl _ _ _ rfl rfl 35 _ #[.int .i64 d.upto, .slice none 0 0, .slice none 0 0, .slice none 0 0] rfl uqg rfl (uxq _ _ _ _ _ _ _ _ _ _) ?_))
  clear x0 x1 x2 HC HD
  have bO4 := Blk.new w2 35 #[.int .i64 d.upto, .slice none 0 0, .slice none 0 0, .slice none 0 0]
  have bS4 := bS2.alloc (.cells #[.int .i64 d.upto, .slice none 0 0, .slice none 0 0, .slice none 0 0] 35)
  have bD4 := bD2.alloc (.cells #[.int .i64 d.upto, .slice none 0 0, .slice none 0 0, .slice none 0 0] 35)
  have bZ4 := bZ2.alloc (.cells #[.int .i64 d.upto, .slice none 0 0, .slice none 0 0, .slice none 0 0] 35)
  have hB4 := hB2.alloc hB2.size (.cells #[.int .i64 d.upto, .slice none 0 0, .slice none 0 0, .slice none 0 0] 35)
  have hg := bZ2.lt
  clear bS2 bD2 bZ2 hB2
  generalize w2.alloc _ = w4 at *
  generalize w2.heap.size = g at *
  have y1 : w4.cell? ⟨w.heap.size, 1, none⟩ = some (.slice p1 s.jobs.length c1) := bS4.cell 1
  have y2 : w4.cell? ⟨w.heap.size + 1, 2, none⟩ = some (.slice r1 d.jobs.length e1) := bD4.cell 2
  have y3 : w4.cell? ⟨w.heap.size + 1, 5, none⟩ = some (.slice r4 d.gj.length e4) := bD4.cell 5
  go_wp2_with fail
  clear y1 y2 y3
  refine (HJ.out _ hB4).mono ?_
  rintro e w5 ⟨q1, d1, rfl, hO1, hb5⟩
  have hB5 := hB4.trans (hb5.mono hB4.size)
  have bS5 := bS4.below hb5 bS4.lt
  have bD5 := bD4.below hb5 bD4.lt
  have bZ5 := bZ4.below hb5 bZ4.lt
  have bO5 := bO4.below hb5 bO4.lt
  have hgl0 : g < w4.heap.size := bO4.lt
  have y1 : w5.cell? ⟨g, 1, none⟩ = some (.slice none 0 0) := bO5.cell 1
  have y2 : w5.frozen? ⟨g, 1, none⟩ = false := bO5.frozen 1
  go_upto_region 12 with fail
  have bS6 := bS5.far (p := ⟨g, 1, none⟩) (by show w.heap.size ≠ g; omega) (.slice q1 t.jobs.length d1)
  have bD6 := bD5.far (p := ⟨g, 1, none⟩) (by show w.heap.size + 1 ≠ g; omega) (.slice q1 t.jobs.length d1)
  have bZ6 := bZ5.far (p := ⟨g, 1, none⟩) (by show w.heap.size + 2 ≠ g; omega) (.slice q1 t.jobs.length d1)
  have bO6 : Blk (w5.setCell ⟨g, 1, none⟩ (.slice q1 t.jobs.length d1)) g 35 #[.int .i64 d.upto, .slice q1 t.jobs.length d1, .slice none 0 0, .slice none 0 0] := bO5.set_ 1 _
  have hB6 := hB5.setCell (p := ⟨g, 1, none⟩) (by show w.heap.size <= g; omega) (.slice q1 t.jobs.length d1)
  have hO1 := OwnR.cell_ hO1 (a := ⟨g, 1, none⟩) (by show g < _; omega) (.slice q1 t.jobs.length d1)
  clear y1 y2 bS4 bD4 bZ4 bO4 hB4 hb5 bS5 bD5 bZ5 bO5 hB5 HJ
  generalize w5.setCell ⟨g, 1, none⟩ _ = w6 at *
  have y1 : w6.cell? ⟨w.heap.size, 2, none⟩ = some (.slice p2 s.nodes.length c2) := bS6.cell 2
  have y2 : w6.cell? ⟨w.heap.size + 1, 3, none⟩ = some (.slice r2 d.nodes.length e2) := bD6.cell 3
  have y3 : w6.cell? ⟨w.heap.size + 1, 6, none⟩ = some (.slice r5 d.gn.length e5) := bD6.cell 6
  go_wp2_with fail
  clear y1 y2 y3
  refine (HN.out _ hB6).mono ?_
  rintro e w7 ⟨q2, d2, rfl, hO2, hb7⟩
  have hB7 := hB6.trans (hb7.mono hB6.size)
  have bS7 := bS6.below hb7 bS6.lt
  have bD7 := bD6.below hb7 bD6.lt
  have bZ7 := bZ6.below hb7 bZ6.lt
  have bO7 := bO6.below hb7 bO6.lt
  have hgl1 : g < w6.heap.size := bO6.lt
  have hO1 := hO1.below hb7
  have y1 : w7.cell? ⟨g, 2, none⟩ = some (.slice none 0 0) := bO7.cell 2
  have y2 : w7.frozen? ⟨g, 2, none⟩ = false := bO7.frozen 2
  go_upto_region 13 with fail
  have bS8 := bS7.far (p := ⟨g, 2, none⟩) (by show w.heap.size ≠ g; omega) (.slice q2 t.nodes.length d2)
  have bD8 := bD7.far (p := ⟨g, 2, none⟩) (by show w.heap.size + 1 ≠ g; omega) (.slice q2 t.nodes.length d2)
  have bZ8 := bZ7.far (p := ⟨g, 2, none⟩) (by show w.heap.size + 2 ≠ g; omega) (.slice q2 t.nodes.length d2)
  have bO8 : Blk (w7.setCell ⟨g, 2, none⟩ (.slice q2 t.nodes.length d2)) g 35 #[.int .i64 d.upto, .slice q1 t.jobs.length d1, .slice q2 t.nodes.length d2, .slice none 0 0] := bO7.set_ 2 _
  have hB8 := hB7.setCell (p := ⟨g, 2, none⟩) (by show w.heap.size <= g; omega) (.slice q2 t.nodes.length d2)
  have hO1 := OwnR.cell_ hO1 (a := ⟨g, 2, none⟩) (by show g < _; omega) (.slice q2 t.nodes.length d2)
  have hO2 := OwnR.cell_ hO2 (a := ⟨g, 2, none⟩) (by show g < _; omega) (.slice q2 t.nodes.length d2)
  clear y1 y2 bS6 bD6 bZ6 bO6 hB6 hb7 bS7 bD7 bZ7 bO7 hB7 HN
  generalize w7.setCell ⟨g, 2, none⟩ _ = w8 at *
  have y1 : w8.cell? ⟨w.heap.size, 3, none⟩ = some (.slice p3 s.leases.length c3) := bS8.cell 3
  have y2 : w8.cell? ⟨w.heap.size + 1, 4, none⟩ = some (.slice r3 d.leases.length e3) := bD8.cell 4
  have y3 : w8.cell? ⟨w.heap.size + 1, 7, none⟩ = some (.slice r6 d.gl.length e6) := bD8.cell 7
  go_wp2_with fail
  clear y1 y2 y3
  refine (HL.out _ hB8).mono ?_
  rintro e w9 ⟨q3, d3, rfl, hO3, hb9⟩
  have hB9 := hB8.trans (hb9.mono hB8.size)
  have bS9 := bS8.below hb9 bS8.lt
  have bD9 := bD8.below hb9 bD8.lt
  have bZ9 := bZ8.below hb9 bZ8.lt
  have bO9 := bO8.below hb9 bO8.lt
  have hgl2 : g < w8.heap.size := bO8.lt
  have hO1 := hO1.below hb9
  have hO2 := hO2.below hb9
  have y1 : w9.cell? ⟨g, 3, none⟩ = some (.slice none 0 0) := bO9.cell 3
  have y2 : w9.frozen? ⟨g, 3, none⟩ = false := bO9.frozen 3
  go_upto_region 14 with fail
  have bS10 := bS9.far (p := ⟨g, 3, none⟩) (by show w.heap.size ≠ g; omega) (.slice q3 t.leases.length d3)
  have bD10 := bD9.far (p := ⟨g, 3, none⟩) (by show w.heap.size + 1 ≠ g; omega) (.slice q3 t.leases.length d3)
  have bZ10 := bZ9.far (p := ⟨g, 3, none⟩) (by show w.heap.size + 2 ≠ g; omega) (.slice q3 t.leases.length d3)
  have bO10 : Blk (w9.setCell ⟨g, 3, none⟩ (.slice q3 t.leases.length d3)) g 35 #[.int .i64 d.upto, .slice q1 t.jobs.length d1, .slice q2 t.nodes.length d2, .slice q3 t.leases.length d3] := bO9.set_ 3 _
  have hB10 := hB9.setCell (p := ⟨g, 3, none⟩) (by show w.heap.size <= g; omega) (.slice q3 t.leases.length d3)
  have hO1 := OwnR.cell_ hO1 (a := ⟨g, 3, none⟩) (by show g < _; omega) (.slice q3 t.leases.length d3)
  have hO2 := OwnR.cell_ hO2 (a := ⟨g, 3, none⟩) (by show g < _; omega) (.slice q3 t.leases.length d3)
  have hO3 := OwnR.cell_ hO3 (a := ⟨g, 3, none⟩) (by show g < _; omega) (.slice q3 t.leases.length d3)
  clear y1 y2 bS8 bD8 bZ8 bO8 hB8 hb9 bS9 bD9 bZ9 bO9 hB9 HL
  generalize w9.setCell ⟨g, 3, none⟩ _ = w10 at *
  have hM : StM w10 w10.heap.size q1 q2 q3 t := ⟨hO1.elts, hO2.elts, hO3.elts⟩
  have hout : #[Value.int .i64 d.upto, Value.slice q1 t.jobs.length d1, Value.slice q2 t.nodes.length d2, Value.slice q3 t.leases.length d3] = (stv t q1 q2 q3 d1 d2 d3) := by rw [<- hup]
  have hgl : g < w10.heap.size := bO10.lt
  rw [hout] at bO10
  have HC := zrj (ux2 t q1 q2 q3 d1 d2 d3 w10 hM HSZ.out (HT.out.below hB10))
  clear hM bS10 bD10 HSZ HT
  by_cases hAll : B1 = true ∧ B2 = true ∧ B3 = true
  · obtain ⟨rfl, rfl, rfl⟩ := hAll
    obtain ⟨ht, hca⟩ := HALL.out rfl rfl rfl
    have hA := HA.out
    rw [hca, if_pos rfl, <- ht] at hA
    have hAS := HAS.out
    rw [hA, <- ht] at hAS
    clear ht hca HALL HNOT HA HAS
    by_cases hce : uqq t = 0
    · rw [hce] at hA HC
      rw [if_pos hce] at hAS
      have HE := zrj hA
      have HS := zrj hAS
      clear hA hAS hce
      go_wp2_with (first | (refine uqa rfl _ _ rfl g rfl _ _ bO10 _ underlying35 rfl uqg ?_))
      refine HC.out.mono ?_
      rintro e w11 ⟨rfl, hb11⟩
      have hB11 := hB10.trans (hb11.mono hB10.size)
      have bO11 := bO10.below hb11 bO10.lt
      have bZ11 := bZ10.below hb11 bZ10.lt
      have hP1 := hO1.below hb11
      have hP2 := hO2.below hb11
      have hP3 := hO3.below hb11
      clear hb11 bO10 bZ10 hB10 HC hO1 hO2 hO3
      go_wp2_with (first | (refine uqa rfl _ _ rfl g rfl _ _ bO11 _ underlying35 rfl uqg ?_) | (refine uqc rfl _ _ _ rfl (w.heap.size + 2) rfl _ _ (stv t q1 q2 q3 d1 d2 d3) bZ11 rfl uqg rfl (uxq _ _ _ _ _ _ _ _ _ _) ?_))
      refine bodyPost_ret (uqi rfl _ rfl (bZ11.setRow (stv t q1 q2 q3 d1 d2 d3)) underlying35 rfl uqg) rfl ?_
      rw [HE.out, HS.out]
      exact ⟨q1, q2, q3, d1, d2, d3, rfl, ⟨(OwnR.row_ hP1 (by omega) _).elts, (OwnR.row_ hP2 (by omega) _).elts, (OwnR.row_ hP3 (by omega) _).elts⟩, uqh hB11 (by omega) _, ⟨OwnR.new hP1 (by omega), OwnR.new hP2 (by omega), OwnR.new hP3 (by omega)⟩⟩
    · have hne2 : ((uqq t : Int) != 0) = true := by rw [bne_iff_ne]; omega
      rw [if_neg hce] at hAS
      have HE := zrj hA
      have HS := zrj hAS
      clear hA hAS hce hO1 hO2 hO3
      generalize uqq t = ce at *
      go_wp2_with (first | (refine uqa rfl _ _ rfl g rfl _ _ bO10 _ underlying35 rfl uqg ?_))
      refine HC.out.mono ?_
      rintro e w11 ⟨rfl, hb11⟩
      have hB11 := hB10.trans (hb11.mono hB10.size)
      have bZ11 := bZ10.below hb11 bZ10.lt
      clear hb11 bO10 bZ10 hB10 HC
      go_wp2_with (first | (refine uqc rfl _ _ _ rfl (w.heap.size + 2) rfl _ _ zsv bZ11 rfl uqg rfl (uxq _ _ _ _ _ _ _ _ _ _) ?_))
      refine bodyPost_ret (uqi rfl _ rfl (bZ11.setRow zsv) underlying35 rfl uqg) rfl ?_
      rw [HE.out, HS.out]
      exact ⟨none, none, none, 0, 0, 0, rfl, ⟨.nil_, .nil_, .nil_⟩, uqh hB11 (by omega) _, NewR.nil _⟩
  · have hca : vqf s d = false := by
      rw [<- HNOT.out]
      cases B1 <;> cases B2 <;> cases B3 <;> first | rfl | exact absurd ⟨rfl, rfl, rfl⟩ hAll
    have hA := HA.out
    rw [hca, if_neg (by simp)] at hA
    have hAS := HAS.out
    rw [hA, if_neg (by decide)] at hAS
    have HE := zrj hA
    have HS := zrj hAS
    clear hca hA hAS HA HAS HALL HNOT HC bO10 hO1 hO2 hO3
    cases B1 <;> cases B2 <;> cases B3
    all_goals first
      | exact absurd ⟨rfl, rfl, rfl⟩ hAll
      | (clear hAll
         go_wp2_with (first | (refine uqc rfl _ _ _ rfl (w.heap.size + 2) rfl _ _ zsv bZ10 rfl uqg rfl (uxq _ _ _ _ _ _ _ _ _ _) ?_))
         refine bodyPost_ret (uqi rfl _ rfl (bZ10.setRow zsv) underlying35 rfl uqg) rfl ?_
         rw [HE.out, HS.out]
         exact ⟨none, none, none, 0, 0, 0, rfl, ⟨.nil_, .nil_, .nil_⟩, uqh hB10 (by omega) _, NewR.nil _⟩)
theorem xqh (s : St) (d : uq1) (p1 p2 p3 : Option Addr) (c1 c2 c3 : Nat) (r1 r2 r3 r4 r5 r6 : Option Addr) (e1 e2 e3 e4 e5 e6 : Nat) (w : World) (hm : StM w w.heap.size p1 p2 p3 s) (hd : DelM w w.heap.size r1 r2 r3 r4 r5 r6 d) (hz : StSz s) (hk : DelOk d) (hT : Tabs w) :
    Calls prog 62 #[.agg (stv s p1 p2 p3 c1 c2 c3), .agg (dv d r1 r2 r3 r4 r5 r6 e1 e2 e3 e4 e5 e6)] w fun e w' => ∃ q1 q2 q3 d1 d2 d3, e = .returned (.tuple #[.agg #[.int .i64 (uz2 s d).rev, .slice q1 (uz2 s d).jobs.length d1, .slice q2 (uz2 s d).nodes.length d2, .slice q3 (uz2 s d).leases.length d3], .int .i64 ((uzv s d : Nat) : Int)]) ∧ StM w' w'.heap.size q1 q2 q3 (uz2 s d) ∧ Below w.heap.size w w' ∧ NewR w.heap.size q1 q2 q3 := by
  by_cases hc : uqq s = 0
  · by_cases hc2 : uxj d = 0
    · by_cases hf : d.frm = s.rev
      · exact wv5 s d p1 p2 p3 c1 c2 c3 r1 r2 r3 r4 r5 r6 e1 e2 e3 e4 e5 e6 w hm hd hz hk hT hc hc2 hf
      · have h := xqi s d p1 p2 p3 c1 c2 c3 r1 r2 r3 r4 r5 r6 e1 e2 e3 e4 e5 e6 w hm hd hz hk hT hc hc2 hf
        have hE : uzv s d = 10 := by unfold uzv; rw [if_neg (by simpa using hc), if_neg (by simpa using hc2), if_pos hf]
        have hS : uz2 s d = ⟨0, [], [], []⟩ := by unfold uz2; rw [hE, if_neg (by decide)]
        rw [hE, hS]; exact h
    · have h := wv4 s d p1 p2 p3 c1 c2 c3 r1 r2 r3 r4 r5 r6 e1 e2 e3 e4 e5 e6 w hm hd hz hk hT hc hc2
      have hE : uzv s d = uxj d := by unfold uzv; rw [if_neg (by simpa using hc), if_pos hc2]
      have hS : uz2 s d = ⟨0, [], [], []⟩ := by unfold uz2; rw [hE, if_neg hc2]
      rw [hE, hS]; exact h
  · have h := wv3 s d p1 p2 p3 c1 c2 c3 r1 r2 r3 r4 r5 r6 e1 e2 e3 e4 e5 e6 w hm hd hz hk hT hc
    have hE : uzv s d = uqq s := by unfold uzv; rw [if_pos hc]
    have hS : uz2 s d = ⟨0, [], [], []⟩ := by unfold uz2; rw [hE, if_neg hc]
    rw [hE, hS]; exact h
end Go.Proofs.YtibiankbmhdljabGreatDoor
