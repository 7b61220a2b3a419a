/-
  Several texts in one: CmpS, CmpJ, CmpN, CmpL.
-/
import Derived.Test.YtaioadbenigdpaaGreatDoorPkStateA
import Derived.Test.YtaioadbenigdpaaGreatDoorPkBase
import Derived.Sort.Grow
set_option linter.unusedVariables false
set_option linter.unusedSimpArgs false
set_option maxHeartbeats 16000000
set_option maxRecDepth 100000
namespace Go.Proofs.YtaioadbenigdpaaGreatDoor
open Go.RowKit
def cmpB (a b : ByteArray) : Int := if ltS a b = true then -1 else if ltS b a = true then 1 else 0
theorem cmpB_lt (a b : ByteArray) : decide (cmpB a b < 0) = ltS a b := by
 unfold cmpB
 cases h : ltS a b
 ·cases h2 : ltS b a <;> simp
 ·simp
theorem nan_any (a : ByteArray) (w : World) :
  Calls Tryz.prog 105 #[.string a] w fun e w' => e = .returned (.bool false) ∧ w = w' := by
 have h0 : (a.toList != a.toList) = false := by simp
 go_enter Tryz.func105, Tryz.ntmps105
 go_wp2_with fail
 go_ret
 exact ⟨rfl, rfl⟩
theorem compare_any (a b : ByteArray) (w : World) :
  Calls Tryz.prog 71 #[.string a, .string b] w fun e w' => e = .returned (.int .i64 (cmpB a b)) ∧ w = w' := by
 have HN := Lib.hid (fun (x : ByteArray) (W : World) => nan_any x W)
 cases h1 : ltS a b
 ·have f1 : Op.bytesLess a.toList b.toList = false := h1
  by_cases h2 : a = b
  ·subst h2
   have HC := Lib.hid (show cmpB a a = 0 from by unfold cmpB; rw [h1]; rfl)
   have f3 : (!(Op.bytesLess a.toList a.toList || a.toList == a.toList)) = false := by simp
   have f4 : (a.toList == a.toList) = true := by simp
   clear h1
   go_enter Tryz.func71, Tryz.ntmps71
   go_wp2_with fail
   refine (HN.out _ _).mono ?_
   rintro e w1 ⟨rfl, rfl⟩
   go_wp2_with fail
   refine (HN.out _ _).mono ?_
   rintro e w1 ⟨rfl, rfl⟩
   go_wp2_with fail
   go_ret
   exact ⟨by rw [HC.out]; rfl, rfl⟩
  ·have h3 : ltS b a = true := by
    rcases bl_total a.toList b.toList with h | h | h
    ·rw [f1] at h; cases h
    ·exact absurd (toList_inj h) h2
    ·exact h
   have HC := Lib.hid (show cmpB a b = 1 from by unfold cmpB; rw [h1, h3]; rfl)
   have f4 : (a.toList == b.toList) = false := by rw [beq_eq_false_iff_ne]; exact fun h => h2 (toList_inj h)
   clear h1 h2 h3
   go_enter Tryz.func71, Tryz.ntmps71
   go_wp2_with fail
   refine (HN.out _ _).mono ?_
   rintro e w1 ⟨rfl, rfl⟩
   go_wp2_with fail
   refine (HN.out _ _).mono ?_
   rintro e w1 ⟨rfl, rfl⟩
   go_wp2_with fail
   go_ret
   exact ⟨by rw [HC.out]; rfl, rfl⟩
 ·have f1 : Op.bytesLess a.toList b.toList = true := h1
  have HC := Lib.hid (show cmpB a b = -1 from by unfold cmpB; rw [h1]; rfl)
  clear h1
  go_enter Tryz.func71, Tryz.ntmps71
  go_wp2_with fail
  refine (HN.out _ _).mono ?_
  rintro e w1 ⟨rfl, rfl⟩
  go_wp2_with fail
  refine (HN.out _ _).mono ?_
  rintro e w1 ⟨rfl, rfl⟩
  go_wp2_with fail
  go_ret
  exact ⟨by rw [HC.out]; rfl, rfl⟩
def Grw (W w' : World) : Prop := Below W.heap.size W w' ∧ W.drawn ≤ w'.drawn
theorem Grw.refl (W : World) : Grw W W := ⟨Below.refl _ _, Nat.le_refl _⟩
theorem Grw.step {W a b : World} (h : Grw W a) (hb : Below a.heap.size a b) (hd : a.drawn ≤ b.drawn) : Grw W b := ⟨bthen h.1 hb, Nat.le_trans h.2 hd⟩
theorem Grw.is {w w' : World} (h : Grw w w') : ∃ q os, w' = Sort.grow (w.drewN q) os := by
 obtain ⟨h1, h2⟩ := h
 refine ⟨w'.drawn - w.drawn, w'.heap.extract w.heap.size w'.heap.size, ?_⟩
 obtain ⟨hp, tp, dr, os, out⟩ := w'
 obtain ⟨a1, a2, a3, a4, a5⟩ := h1
 simp only at a1 a2 a3 a4 a5 h2
 subst a1 a2 a3
 unfold Sort.grow World.drewN
 simp only [World.mk.injEq]
 refine ⟨?_, trivial, by omega, trivial, trivial⟩
 apply Array.ext_getElem?
 intro i
 by_cases hi : i < w.heap.size
 ·rw [a5 i hi, Array.getElem?_append_left hi]
 ·rw [Array.getElem?_append_right (by omega)]
  rw [Array.getElem?_extract]
  by_cases h3 : i < hp.size
  ·rw [if_pos (by omega)]; congr 1; omega
  ·rw [if_neg (by omega), Array.getElem?_eq_none (by omega)]
theorem wp_region_grw {P : Program} {id : Nat} {Q : Exit → Act → World → Prop} {a : Act} {w : World} {l : List Oper} (hm : P.follows .mixedOrders = true) (hB : Region.lexB .any l.toArray = true)
  (h : wpQuiet P l.toArray (Grw w) (fun a' => ∀ w', Grw w w' → Q .normal a' w') l a) : (Code.region id l.toArray true).wp P Q a w :=
 wp_region_quiet (C := Grw w) hm hB ⟨(Below.refl _ w).drew, Nat.le_succ _⟩ (by simpa using h)
open Go.RowKit
theorem keyxJ_any (x : JobD) (w : World) :
  Calls Tryz.prog 30 #[.agg #[.string x.name, .int .i64 x.prio, .int .i64 x.need, .int .i64 x.tries, .string x.tag]] w fun e w' => e = .returned (.string x.name) ∧ w' = w.alloc (.cells #[.string x.name, .int .i64 x.prio, .int .i64 x.need, .int .i64 x.tries, .string x.tag] 31) := by
 go_enter Tryz.func30, Tryz.ntmps30
 go_wp2_with fail
 go_ret
 exact ⟨rfl, rfl⟩
theorem cmpJ_any (gk : Nat) (x y : JobD) (w : World) (hk : w.cell? ⟨gk, 0, none⟩ = some (.func (.func 30) #[] #[])) (hlt : gk < w.heap.size) :
  Calls Tryz.prog 70 #[.agg #[.string x.name, .int .i64 x.prio, .int .i64 x.need, .int .i64 x.tries, .string x.tag], .agg #[.string y.name, .int .i64 y.prio, .int .i64 y.need, .int .i64 y.tries, .string y.tag], .pointer (some ⟨gk, 0, none⟩)] w fun e w' => e = .returned (.int .i64 (cmpB x.name y.name)) ∧ Grw w w' := by
 have hs1 : (w.alloc (.cells #[.string x.name, .int .i64 x.prio, .int .i64 x.need, .int .i64 x.tries, .string x.tag] 31)).heap.size = w.heap.size + 1 := by simp
 have hb0 : Grw w ((w.alloc (.cells #[.string x.name, .int .i64 x.prio, .int .i64 x.need, .int .i64 x.tries, .string x.tag] 31)).alloc (.cells #[.string y.name, .int .i64 y.prio, .int .i64 y.need, .int .i64 y.tries, .string y.tag] 31)) := ⟨((Below.refl _ _).alloc (Nat.le_refl _) _).alloc (by omega) _, Nat.le_refl _⟩
 have bx0 := (Blk.new w 31 #[.string x.name, .int .i64 x.prio, .int .i64 x.need, .int .i64 x.tries, .string x.tag]).alloc (.cells #[.string y.name, .int .i64 y.prio, .int .i64 y.need, .int .i64 y.tries, .string y.tag] 31)
 have by0 := Blk.new (w.alloc (.cells #[.string x.name, .int .i64 x.prio, .int .i64 x.need, .int .i64 x.tries, .string x.tag] 31)) 31 #[.string y.name, .int .i64 y.prio, .int .i64 y.need, .int .i64 y.tries, .string y.tag]
 rw [hs1] at by0
 clear hs1
 have hk0 : ∀ W, Grw ((w.alloc (.cells #[.string x.name, .int .i64 x.prio, .int .i64 x.need, .int .i64 x.tries, .string x.tag] 31)).alloc (.cells #[.string y.name, .int .i64 y.prio, .int .i64 y.need, .int .i64 y.tries, .string y.tag] 31)) W → W.cell? ⟨gk, 0, none⟩ = some (.func (.func 30) #[] #[]) := fun W hW => by
  have h2 : Below w.heap.size w W := hb0.1.trans (hW.1.mono hb0.1.size)
  exact (h2.cell (p := ⟨gk, 0, none⟩) hlt).trans hk
 have HK := Lib.hid hk0
 clear hk0 hk
 go_enter Tryz.func70, Tryz.ntmps70
 go_wp2_with fail
 generalize (w.alloc _).alloc _ = w0 at *
 refine wp_region_grw (by kernel_rfl) (by kernel_rfl) ?_
 repeat (first
  | (refine wpQuiet_load_g (by first | rfl | kernel_rfl) _ _ rfl ⟨w.heap.size, 0, none⟩ rfl [Value.string x.name, Value.int .i64 x.prio, Value.int .i64 x.need, Value.int .i64 x.tries, Value.string x.tag] _ (fun w5 hw5 => At.blk (bx0.below hw5.1 bx0.lt)) Tryz.underlying31 rfl job_size ?_; simp only [Act.put, List.setIfInBounds_toArray, List.set_cons_zero, List.set_cons_succ])
  | (refine wpQuiet_load_g (by first | rfl | kernel_rfl) _ _ rfl ⟨w.heap.size + 1, 0, none⟩ rfl [Value.string y.name, Value.int .i64 y.prio, Value.int .i64 y.need, Value.int .i64 y.tries, Value.string y.tag] _ (fun w5 hw5 => At.blk (by0.below hw5.1 by0.lt)) Tryz.underlying31 rfl job_size ?_; simp only [Act.put, List.setIfInBounds_toArray, List.set_cons_zero, List.set_cons_succ])
  | (apply wpQuiet_do; (focus (first | rfl | kernel_rfl)); (focus (intro w5 hw5; have hk5 := HK.out w5 hw5; unfold Oper.quietAt; go_simp; first | rfl | exact ⟨rfl, rfl⟩ | (with_reducible refine (keyxJ_any x w5).mono ?_; rintro e w8 ⟨rfl, rfl⟩; exact ⟨rfl, Grw.step hw5 ((Below.refl _ _).alloc (Nat.le_refl _) _) (Nat.le_refl _)⟩) | (with_reducible refine (keyxJ_any y w5).mono ?_; rintro e w8 ⟨rfl, rfl⟩; exact ⟨rfl, Grw.step hw5 ((Below.refl _ _).alloc (Nat.le_refl _) _) (Nat.le_refl _)⟩) | (with_reducible refine (compare_any x.name y.name w5).mono ?_; rintro e w8 ⟨rfl, rfl⟩; exact ⟨rfl, hw5⟩))); simp only [Act.put, List.setIfInBounds_toArray, List.set_cons_zero, List.set_cons_succ]))
 refine wpQuiet_nil ?_
 intro w7 hw7
 have hb7 : Grw w w7 := ⟨hb0.1.trans (hw7.1.mono hb0.1.size), Nat.le_trans hb0.2 hw7.2⟩
 go_wp2_with fail
 go_ret
 exact ⟨rfl, hb7⟩
open Go.RowKit
theorem keyxN_any (x : NodeD) (w : World) :
  Calls Tryz.prog 32 #[.agg #[.string x.name, .int .i64 x.room, .string x.zone]] w fun e w' => e = .returned (.string x.name) ∧ w' = w.alloc (.cells #[.string x.name, .int .i64 x.room, .string x.zone] 34) := by
 go_enter Tryz.func32, Tryz.ntmps32
 go_wp2_with fail
 go_ret
 exact ⟨rfl, rfl⟩
theorem cmpN_any (gk : Nat) (x y : NodeD) (w : World) (hk : w.cell? ⟨gk, 0, none⟩ = some (.func (.func 32) #[] #[])) (hlt : gk < w.heap.size) :
  Calls Tryz.prog 74 #[.agg #[.string x.name, .int .i64 x.room, .string x.zone], .agg #[.string y.name, .int .i64 y.room, .string y.zone], .pointer (some ⟨gk, 0, none⟩)] w fun e w' => e = .returned (.int .i64 (cmpB x.name y.name)) ∧ Grw w w' := by
 have hs1 : (w.alloc (.cells #[.string x.name, .int .i64 x.room, .string x.zone] 34)).heap.size = w.heap.size + 1 := by simp
 have hb0 : Grw w ((w.alloc (.cells #[.string x.name, .int .i64 x.room, .string x.zone] 34)).alloc (.cells #[.string y.name, .int .i64 y.room, .string y.zone] 34)) := ⟨((Below.refl _ _).alloc (Nat.le_refl _) _).alloc (by omega) _, Nat.le_refl _⟩
 have bx0 := (Blk.new w 34 #[.string x.name, .int .i64 x.room, .string x.zone]).alloc (.cells #[.string y.name, .int .i64 y.room, .string y.zone] 34)
 have by0 := Blk.new (w.alloc (.cells #[.string x.name, .int .i64 x.room, .string x.zone] 34)) 34 #[.string y.name, .int .i64 y.room, .string y.zone]
 rw [hs1] at by0
 clear hs1
 have hk0 : ∀ W, Grw ((w.alloc (.cells #[.string x.name, .int .i64 x.room, .string x.zone] 34)).alloc (.cells #[.string y.name, .int .i64 y.room, .string y.zone] 34)) W → W.cell? ⟨gk, 0, none⟩ = some (.func (.func 32) #[] #[]) := fun W hW => by
  have h2 : Below w.heap.size w W := hb0.1.trans (hW.1.mono hb0.1.size)
  exact (h2.cell (p := ⟨gk, 0, none⟩) hlt).trans hk
 have HK := Lib.hid hk0
 clear hk0 hk
 go_enter Tryz.func74, Tryz.ntmps74
 go_wp2_with fail
 generalize (w.alloc _).alloc _ = w0 at *
 refine wp_region_grw (by kernel_rfl) (by kernel_rfl) ?_
 repeat (first
  | (refine wpQuiet_load_g (by first | rfl | kernel_rfl) _ _ rfl ⟨w.heap.size, 0, none⟩ rfl [Value.string x.name, Value.int .i64 x.room, Value.string x.zone] _ (fun w5 hw5 => At.blk (bx0.below hw5.1 bx0.lt)) Tryz.underlying34 rfl node_size ?_; simp only [Act.put, List.setIfInBounds_toArray, List.set_cons_zero, List.set_cons_succ])
  | (refine wpQuiet_load_g (by first | rfl | kernel_rfl) _ _ rfl ⟨w.heap.size + 1, 0, none⟩ rfl [Value.string y.name, Value.int .i64 y.room, Value.string y.zone] _ (fun w5 hw5 => At.blk (by0.below hw5.1 by0.lt)) Tryz.underlying34 rfl node_size ?_; simp only [Act.put, List.setIfInBounds_toArray, List.set_cons_zero, List.set_cons_succ])
  | (apply wpQuiet_do; (focus (first | rfl | kernel_rfl)); (focus (intro w5 hw5; have hk5 := HK.out w5 hw5; unfold Oper.quietAt; go_simp; first | rfl | exact ⟨rfl, rfl⟩ | (with_reducible refine (keyxN_any x w5).mono ?_; rintro e w8 ⟨rfl, rfl⟩; exact ⟨rfl, Grw.step hw5 ((Below.refl _ _).alloc (Nat.le_refl _) _) (Nat.le_refl _)⟩) | (with_reducible refine (keyxN_any y w5).mono ?_; rintro e w8 ⟨rfl, rfl⟩; exact ⟨rfl, Grw.step hw5 ((Below.refl _ _).alloc (Nat.le_refl _) _) (Nat.le_refl _)⟩) | (with_reducible refine (compare_any x.name y.name w5).mono ?_; rintro e w8 ⟨rfl, rfl⟩; exact ⟨rfl, hw5⟩))); simp only [Act.put, List.setIfInBounds_toArray, List.set_cons_zero, List.set_cons_succ]))
 refine wpQuiet_nil ?_
 intro w7 hw7
 have hb7 : Grw w w7 := ⟨hb0.1.trans (hw7.1.mono hb0.1.size), Nat.le_trans hb0.2 hw7.2⟩
 go_wp2_with fail
 go_ret
 exact ⟨rfl, hb7⟩
open Go.RowKit
theorem keyxL_any (x : LeaseD) (w : World) :
  Calls Tryz.prog 34 #[.agg #[.string x.job, .string x.node, .int .i64 x.till]] w fun e w' => e = .returned (.string x.job) ∧ w' = w.alloc (.cells #[.string x.job, .string x.node, .int .i64 x.till] 37) := by
 go_enter Tryz.func34, Tryz.ntmps34
 go_wp2_with fail
 go_ret
 exact ⟨rfl, rfl⟩
theorem cmpL_any (gk : Nat) (x y : LeaseD) (w : World) (hk : w.cell? ⟨gk, 0, none⟩ = some (.func (.func 34) #[] #[])) (hlt : gk < w.heap.size) :
  Calls Tryz.prog 77 #[.agg #[.string x.job, .string x.node, .int .i64 x.till], .agg #[.string y.job, .string y.node, .int .i64 y.till], .pointer (some ⟨gk, 0, none⟩)] w fun e w' => e = .returned (.int .i64 (cmpB x.job y.job)) ∧ Grw w w' := by
 have hs1 : (w.alloc (.cells #[.string x.job, .string x.node, .int .i64 x.till] 37)).heap.size = w.heap.size + 1 := by simp
 have hb0 : Grw w ((w.alloc (.cells #[.string x.job, .string x.node, .int .i64 x.till] 37)).alloc (.cells #[.string y.job, .string y.node, .int .i64 y.till] 37)) := ⟨((Below.refl _ _).alloc (Nat.le_refl _) _).alloc (by omega) _, Nat.le_refl _⟩
 have bx0 := (Blk.new w 37 #[.string x.job, .string x.node, .int .i64 x.till]).alloc (.cells #[.string y.job, .string y.node, .int .i64 y.till] 37)
 have by0 := Blk.new (w.alloc (.cells #[.string x.job, .string x.node, .int .i64 x.till] 37)) 37 #[.string y.job, .string y.node, .int .i64 y.till]
 rw [hs1] at by0
 clear hs1
 have hk0 : ∀ W, Grw ((w.alloc (.cells #[.string x.job, .string x.node, .int .i64 x.till] 37)).alloc (.cells #[.string y.job, .string y.node, .int .i64 y.till] 37)) W → W.cell? ⟨gk, 0, none⟩ = some (.func (.func 34) #[] #[]) := fun W hW => by
  have h2 : Below w.heap.size w W := hb0.1.trans (hW.1.mono hb0.1.size)
  exact (h2.cell (p := ⟨gk, 0, none⟩) hlt).trans hk
 have HK := Lib.hid hk0
 clear hk0 hk
 go_enter Tryz.func77, Tryz.ntmps77
 go_wp2_with fail
 generalize (w.alloc _).alloc _ = w0 at *
 refine wp_region_grw (by kernel_rfl) (by kernel_rfl) ?_
 repeat (first
  | (refine wpQuiet_load_g (by first | rfl | kernel_rfl) _ _ rfl ⟨w.heap.size, 0, none⟩ rfl [Value.string x.job, Value.string x.node, Value.int .i64 x.till] _ (fun w5 hw5 => At.blk (bx0.below hw5.1 bx0.lt)) Tryz.underlying37 rfl lease_size ?_; simp only [Act.put, List.setIfInBounds_toArray, List.set_cons_zero, List.set_cons_succ])
  | (refine wpQuiet_load_g (by first | rfl | kernel_rfl) _ _ rfl ⟨w.heap.size + 1, 0, none⟩ rfl [Value.string y.job, Value.string y.node, Value.int .i64 y.till] _ (fun w5 hw5 => At.blk (by0.below hw5.1 by0.lt)) Tryz.underlying37 rfl lease_size ?_; simp only [Act.put, List.setIfInBounds_toArray, List.set_cons_zero, List.set_cons_succ])
  | (apply wpQuiet_do; (focus (first | rfl | kernel_rfl)); (focus (intro w5 hw5; have hk5 := HK.out w5 hw5; unfold Oper.quietAt; go_simp; first | rfl | exact ⟨rfl, rfl⟩ | (with_reducible refine (keyxL_any x w5).mono ?_; rintro e w8 ⟨rfl, rfl⟩; exact ⟨rfl, Grw.step hw5 ((Below.refl _ _).alloc (Nat.le_refl _) _) (Nat.le_refl _)⟩) | (with_reducible refine (keyxL_any y w5).mono ?_; rintro e w8 ⟨rfl, rfl⟩; exact ⟨rfl, Grw.step hw5 ((Below.refl _ _).alloc (Nat.le_refl _) _) (Nat.le_refl _)⟩) | (with_reducible refine (compare_any x.job y.job w5).mono ?_; rintro e w8 ⟨rfl, rfl⟩; exact ⟨rfl, hw5⟩))); simp only [Act.put, List.setIfInBounds_toArray, List.set_cons_zero, List.set_cons_succ]))
 refine wpQuiet_nil ?_
 intro w7 hw7
 have hb7 : Grw w w7 := ⟨hb0.1.trans (hw7.1.mono hb0.1.size), Nat.le_trans hb0.2 hw7.2⟩
 go_wp2_with fail
 go_ret
 exact ⟨rfl, hb7⟩
end Go.Proofs.YtaioadbenigdpaaGreatDoor
