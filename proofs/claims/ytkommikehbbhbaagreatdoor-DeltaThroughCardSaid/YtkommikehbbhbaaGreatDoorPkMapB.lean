/-
  Several texts in one: CmpS, CmpJ, CmpN, CmpL, SrtO, SrtJ, SrtN, SrtL.
-/
import Derived.Test.YtkommikehbbhbaaGreatDoorPkStateA
import Derived.Test.YtkommikehbbhbaaGreatDoorPkBase
import Derived.Sort.Grow
import Derived.Test.YtkommikehbbhbaaGreatDoorPkMapA
import Derived.Test.YtkommikehbbhbaaGreatDoorPkOwn
import Derived.Shelf.SlSortCmp.NoneTotal
import Derived.Sort.OwnSorted
import Derived.Test.YtkommikehbbhbaaGreatDoorSort
/-
  The contract of cmp.Compare at strings; worlds that have only grown.
-/
set_option linter.unusedVariables false
set_option linter.unusedSimpArgs false
namespace Go.Proofs.YtkommikehbbhbaaGreatDoor
open Go.RowKit
/-- How a stands to b. -/
def cmpB (a b : ByteArray) : Int := if ltS a b = true then -1 else if ltS b a = true then 1 else 0
theorem cmpB_lt (a b : ByteArray) : decide (cmpB a b < 0) = ltS a b := by
  unfold cmpB
  cases h : ltS a b
  · cases h2 : ltS b a <;> simp
  · simp
set_option maxHeartbeats 1000000 in
set_option maxRecDepth 100000 in
theorem nan_any (a : ByteArray) (w : World) :
    Calls Tryz.prog 114 #[.string a] w fun e w' => e = .returned (.bool false) ∧ w = w' := by
  have h0 : (a.toList != a.toList) = false := by simp
  go_enter Tryz.func114, Tryz.ntmps114
  go_wp2_with fail
  go_ret
  exact ⟨rfl, rfl⟩
set_option maxHeartbeats 2000000 in
set_option maxRecDepth 100000 in
theorem compare_any (a b : ByteArray) (w : World) :
    Calls Tryz.prog 70 #[.string a, .string b] w fun e w' => e = .returned (.int .i64 (cmpB a b)) ∧ w = w' := by
  have HN := Lib.hid (fun (x : ByteArray) (W : World) => nan_any x W)
  cases h1 : ltS a b
  · have f1 : Op.bytesLess a.toList b.toList = false := h1
    by_cases h2 : a = b
    · subst h2
      have HC := Lib.hid (show cmpB a a = 0 from by unfold cmpB; rw [h1]; rfl)
      have f3 : (!(Op.bytesLess a.toList a.toList || a.toList == a.toList)) = false := by simp
      have f4 : (a.toList == a.toList) = true := by simp
      clear h1
      go_enter Tryz.func70, Tryz.ntmps70
      go_wp2_with fail
      refine (HN.out _ _).mono ?_
      rintro e w1 ⟨rfl, rfl⟩
      go_wp2_with fail
      refine (HN.out _ _).mono ?_
      rintro e w1 ⟨rfl, rfl⟩
      go_wp2_with fail
      go_ret
      exact ⟨by rw [HC.out]; rfl, rfl⟩
    · have h3 : ltS b a = true := by
        rcases bl_total a.toList b.toList with h | h | h
        · rw [f1] at h; cases h
        · exact absurd (toList_inj h) h2
        · exact h
      have HC := Lib.hid (show cmpB a b = 1 from by unfold cmpB; rw [h1, h3]; rfl)
      have f4 : (a.toList == b.toList) = false := by rw [beq_eq_false_iff_ne]; exact fun h => h2 (toList_inj h)
      clear h1 h2 h3
      go_enter Tryz.func70, Tryz.ntmps70
      go_wp2_with fail
      refine (HN.out _ _).mono ?_
      rintro e w1 ⟨rfl, rfl⟩
      go_wp2_with fail
      refine (HN.out _ _).mono ?_
      rintro e w1 ⟨rfl, rfl⟩
      go_wp2_with fail
      go_ret
      exact ⟨by rw [HC.out]; rfl, rfl⟩
  · have f1 : Op.bytesLess a.toList b.toList = true := h1
    have HC := Lib.hid (show cmpB a b = -1 from by unfold cmpB; rw [h1]; rfl)
    clear h1
    go_enter Tryz.func70, Tryz.ntmps70
    go_wp2_with fail
    refine (HN.out _ _).mono ?_
    rintro e w1 ⟨rfl, rfl⟩
    go_wp2_with fail
    refine (HN.out _ _).mono ?_
    rintro e w1 ⟨rfl, rfl⟩
    go_wp2_with fail
    go_ret
    exact ⟨by rw [HC.out]; rfl, rfl⟩
/-- w' has all that W has, and has drawn no less. -/
def Grw (W w' : World) : Prop := Below W.heap.size W w' ∧ W.drawn ≤ w'.drawn
theorem Grw.refl (W : World) : Grw W W := ⟨Below.refl _ _, Nat.le_refl _⟩
theorem Grw.step {W a b : World} (h : Grw W a) (hb : Below a.heap.size a b) (hd : a.drawn ≤ b.drawn) : Grw W b := ⟨bthen h.1 hb, Nat.le_trans h.2 hd⟩
/-- A world that has only grown, and drawn, is the old one with new blocks behind. -/
theorem Grw.is {w w' : World} (h : Grw w w') : ∃ q os, w' = Sort.grow (w.drewN q) os := by
  obtain ⟨h1, h2⟩ := h
  refine ⟨w'.drawn - w.drawn, w'.heap.extract w.heap.size w'.heap.size, ?_⟩
  obtain ⟨hp, tp, dr, os, out⟩ := w'
  obtain ⟨a1, a2, a3, a4, a5⟩ := h1
  simp only at a1 a2 a3 a4 a5 h2
  subst a1 a2 a3
  unfold Sort.grow World.drewN
  simp only [World.mk.injEq]
  refine ⟨?_, trivial, by omega, trivial, trivial⟩
  apply Array.ext_getElem?
  intro i
  by_cases hi : i < w.heap.size
  · rw [a5 i hi, Array.getElem?_append_left hi]
  · rw [Array.getElem?_append_right (by omega)]
    rw [Array.getElem?_extract]
    by_cases h3 : i < hp.size
    · rw [if_pos (by omega)]; congr 1; omega
    · rw [if_neg (by omega), Array.getElem?_eq_none (by omega)]
theorem wp_region_grw {P : Program} {id : Nat} {Q : Exit → Act → World → Prop} {a : Act} {w : World} {l : List Oper} (hm : P.follows .mixedOrders = true) (hB : Region.lexB .any l.toArray = true)
    (h : wpQuiet P l.toArray (Grw w) (fun a' => ∀ w', Grw w w' → Q .normal a' w') l a) : (Code.region id l.toArray true).wp P Q a w :=
  wp_region_quiet (C := Grw w) hm hB ⟨(Below.refl _ w).drew, Nat.le_succ _⟩ (by simpa using h)
end Go.Proofs.YtkommikehbbhbaaGreatDoor

/-
  The contract of delta.changed's comparator at jobs.
-/
set_option linter.unusedVariables false
set_option linter.unusedSimpArgs false
namespace Go.Proofs.YtkommikehbbhbaaGreatDoor
open Go.RowKit
set_option maxHeartbeats 1000000 in
set_option maxRecDepth 100000 in
theorem keyxJ_any (x : JobD) (w : World) :
    Calls Tryz.prog 44 #[.agg #[Value.string x.name, Value.int .i64 x.prio, Value.int .i64 x.need, Value.int .i64 x.tries, Value.string x.tag]] w fun e w' => e = .returned (.string x.name) ∧ w' = w.alloc (.cells #[Value.string x.name, Value.int .i64 x.prio, Value.int .i64 x.need, Value.int .i64 x.tries, Value.string x.tag] 44) := by
  go_enter Tryz.func44, Tryz.ntmps44
  go_wp2_with fail
  go_ret
  exact ⟨rfl, rfl⟩
set_option maxHeartbeats 4000000 in
set_option maxRecDepth 100000 in
theorem cmpJ_any (gk : Nat) (x y : JobD) (w : World) (hk : w.cell? ⟨gk, 0, none⟩ = some (.func (.func 44) #[] #[])) (hlt : gk < w.heap.size) :
    Calls Tryz.prog 69 #[.agg #[Value.string x.name, Value.int .i64 x.prio, Value.int .i64 x.need, Value.int .i64 x.tries, Value.string x.tag], .agg #[Value.string y.name, Value.int .i64 y.prio, Value.int .i64 y.need, Value.int .i64 y.tries, Value.string y.tag], .pointer (some ⟨gk, 0, none⟩)] w fun e w' => e = .returned (.int .i64 (cmpB x.name y.name)) ∧ Grw w w' := by
  have hs1 : (w.alloc (.cells #[Value.string x.name, Value.int .i64 x.prio, Value.int .i64 x.need, Value.int .i64 x.tries, Value.string x.tag] 44)).heap.size = w.heap.size + 1 := by simp
  have hb0 : Grw w ((w.alloc (.cells #[Value.string x.name, Value.int .i64 x.prio, Value.int .i64 x.need, Value.int .i64 x.tries, Value.string x.tag] 44)).alloc (.cells #[Value.string y.name, Value.int .i64 y.prio, Value.int .i64 y.need, Value.int .i64 y.tries, Value.string y.tag] 44)) := ⟨((Below.refl _ _).alloc (Nat.le_refl _) _).alloc (by omega) _, Nat.le_refl _⟩
  have bx0 := (Blk.new w 44 #[Value.string x.name, Value.int .i64 x.prio, Value.int .i64 x.need, Value.int .i64 x.tries, Value.string x.tag]).alloc (.cells #[Value.string y.name, Value.int .i64 y.prio, Value.int .i64 y.need, Value.int .i64 y.tries, Value.string y.tag] 44)
  have by0 := Blk.new (w.alloc (.cells #[Value.string x.name, Value.int .i64 x.prio, Value.int .i64 x.need, Value.int .i64 x.tries, Value.string x.tag] 44)) 44 #[Value.string y.name, Value.int .i64 y.prio, Value.int .i64 y.need, Value.int .i64 y.tries, Value.string y.tag]
  rw [hs1] at by0
  clear hs1
  have hk0 : ∀ W, Grw ((w.alloc (.cells #[Value.string x.name, Value.int .i64 x.prio, Value.int .i64 x.need, Value.int .i64 x.tries, Value.string x.tag] 44)).alloc (.cells #[Value.string y.name, Value.int .i64 y.prio, Value.int .i64 y.need, Value.int .i64 y.tries, Value.string y.tag] 44)) W → W.cell? ⟨gk, 0, none⟩ = some (.func (.func 44) #[] #[]) := fun W hW => by
    have h2 : Below w.heap.size w W := hb0.1.trans (hW.1.mono hb0.1.size)
    exact (h2.cell (p := ⟨gk, 0, none⟩) hlt).trans hk
  have HK := Lib.hid hk0
  clear hk0 hk
  go_enter Tryz.func69, Tryz.ntmps69
  go_wp2_with fail
  generalize (w.alloc _).alloc _ = w0 at *
  refine wp_region_grw (by kernel_rfl) (by kernel_rfl) ?_
  repeat (first
    | (refine wpQuiet_load_g (by first | rfl | kernel_rfl) _ _ rfl ⟨w.heap.size, 0, none⟩ rfl [Value.string x.name, Value.int .i64 x.prio, Value.int .i64 x.need, Value.int .i64 x.tries, Value.string x.tag] _ (fun w5 hw5 => At.blk (bx0.below hw5.1 bx0.lt)) Tryz.underlying44 rfl job_size ?_; simp only [Act.put, List.setIfInBounds_toArray, List.set_cons_zero, List.set_cons_succ])
    | (refine wpQuiet_load_g (by first | rfl | kernel_rfl) _ _ rfl ⟨w.heap.size + 1, 0, none⟩ rfl [Value.string y.name, Value.int .i64 y.prio, Value.int .i64 y.need, Value.int .i64 y.tries, Value.string y.tag] _ (fun w5 hw5 => At.blk (by0.below hw5.1 by0.lt)) Tryz.underlying44 rfl job_size ?_; simp only [Act.put, List.setIfInBounds_toArray, List.set_cons_zero, List.set_cons_succ])
    | (apply wpQuiet_do; (focus (first | rfl | kernel_rfl)); (focus (intro w5 hw5; have hk5 := HK.out w5 hw5; unfold Oper.quietAt; go_simp; first | rfl | exact ⟨rfl, rfl⟩ | (with_reducible refine (keyxJ_any x w5).mono ?_; rintro e w8 ⟨rfl, rfl⟩; exact ⟨rfl, Grw.step hw5 ((Below.refl _ _).alloc (Nat.le_refl _) _) (Nat.le_refl _)⟩) | (with_reducible refine (keyxJ_any y w5).mono ?_; rintro e w8 ⟨rfl, rfl⟩; exact ⟨rfl, Grw.step hw5 ((Below.refl _ _).alloc (Nat.le_refl _) _) (Nat.le_refl _)⟩) | (with_reducible refine (compare_any x.name y.name w5).mono ?_; rintro e w8 ⟨rfl, rfl⟩; exact ⟨rfl, hw5⟩))); simp only [Act.put, List.setIfInBounds_toArray, List.set_cons_zero, List.set_cons_succ]))
  refine wpQuiet_nil ?_
  intro w7 hw7
  have hb7 : Grw w w7 := ⟨hb0.1.trans (hw7.1.mono hb0.1.size), Nat.le_trans hb0.2 hw7.2⟩
  go_wp2_with fail
  go_ret
  exact ⟨rfl, hb7⟩
end Go.Proofs.YtkommikehbbhbaaGreatDoor

/-
  The contract of delta.changed's comparator at nodes.
-/
set_option linter.unusedVariables false
set_option linter.unusedSimpArgs false
namespace Go.Proofs.YtkommikehbbhbaaGreatDoor
open Go.RowKit
set_option maxHeartbeats 1000000 in
set_option maxRecDepth 100000 in
theorem keyxN_any (x : NodeD) (w : World) :
    Calls Tryz.prog 46 #[.agg #[Value.string x.name, Value.int .i64 x.room, Value.string x.zone]] w fun e w' => e = .returned (.string x.name) ∧ w' = w.alloc (.cells #[Value.string x.name, Value.int .i64 x.room, Value.string x.zone] 46) := by
  go_enter Tryz.func46, Tryz.ntmps46
  go_wp2_with fail
  go_ret
  exact ⟨rfl, rfl⟩
set_option maxHeartbeats 4000000 in
set_option maxRecDepth 100000 in
theorem cmpN_any (gk : Nat) (x y : NodeD) (w : World) (hk : w.cell? ⟨gk, 0, none⟩ = some (.func (.func 46) #[] #[])) (hlt : gk < w.heap.size) :
    Calls Tryz.prog 73 #[.agg #[Value.string x.name, Value.int .i64 x.room, Value.string x.zone], .agg #[Value.string y.name, Value.int .i64 y.room, Value.string y.zone], .pointer (some ⟨gk, 0, none⟩)] w fun e w' => e = .returned (.int .i64 (cmpB x.name y.name)) ∧ Grw w w' := by
  have hs1 : (w.alloc (.cells #[Value.string x.name, Value.int .i64 x.room, Value.string x.zone] 46)).heap.size = w.heap.size + 1 := by simp
  have hb0 : Grw w ((w.alloc (.cells #[Value.string x.name, Value.int .i64 x.room, Value.string x.zone] 46)).alloc (.cells #[Value.string y.name, Value.int .i64 y.room, Value.string y.zone] 46)) := ⟨((Below.refl _ _).alloc (Nat.le_refl _) _).alloc (by omega) _, Nat.le_refl _⟩
  have bx0 := (Blk.new w 46 #[Value.string x.name, Value.int .i64 x.room, Value.string x.zone]).alloc (.cells #[Value.string y.name, Value.int .i64 y.room, Value.string y.zone] 46)
  have by0 := Blk.new (w.alloc (.cells #[Value.string x.name, Value.int .i64 x.room, Value.string x.zone] 46)) 46 #[Value.string y.name, Value.int .i64 y.room, Value.string y.zone]
  rw [hs1] at by0
  clear hs1
  have hk0 : ∀ W, Grw ((w.alloc (.cells #[Value.string x.name, Value.int .i64 x.room, Value.string x.zone] 46)).alloc (.cells #[Value.string y.name, Value.int .i64 y.room, Value.string y.zone] 46)) W → W.cell? ⟨gk, 0, none⟩ = some (.func (.func 46) #[] #[]) := fun W hW => by
    have h2 : Below w.heap.size w W := hb0.1.trans (hW.1.mono hb0.1.size)
    exact (h2.cell (p := ⟨gk, 0, none⟩) hlt).trans hk
  have HK := Lib.hid hk0
  clear hk0 hk
  go_enter Tryz.func73, Tryz.ntmps73
  go_wp2_with fail
  generalize (w.alloc _).alloc _ = w0 at *
  refine wp_region_grw (by kernel_rfl) (by kernel_rfl) ?_
  repeat (first
    | (refine wpQuiet_load_g (by first | rfl | kernel_rfl) _ _ rfl ⟨w.heap.size, 0, none⟩ rfl [Value.string x.name, Value.int .i64 x.room, Value.string x.zone] _ (fun w5 hw5 => At.blk (bx0.below hw5.1 bx0.lt)) Tryz.underlying46 rfl node_size ?_; simp only [Act.put, List.setIfInBounds_toArray, List.set_cons_zero, List.set_cons_succ])
    | (refine wpQuiet_load_g (by first | rfl | kernel_rfl) _ _ rfl ⟨w.heap.size + 1, 0, none⟩ rfl [Value.string y.name, Value.int .i64 y.room, Value.string y.zone] _ (fun w5 hw5 => At.blk (by0.below hw5.1 by0.lt)) Tryz.underlying46 rfl node_size ?_; simp only [Act.put, List.setIfInBounds_toArray, List.set_cons_zero, List.set_cons_succ])
    | (apply wpQuiet_do; (focus (first | rfl | kernel_rfl)); (focus (intro w5 hw5; have hk5 := HK.out w5 hw5; unfold Oper.quietAt; go_simp; first | rfl | exact ⟨rfl, rfl⟩ | (with_reducible refine (keyxN_any x w5).mono ?_; rintro e w8 ⟨rfl, rfl⟩; exact ⟨rfl, Grw.step hw5 ((Below.refl _ _).alloc (Nat.le_refl _) _) (Nat.le_refl _)⟩) | (with_reducible refine (keyxN_any y w5).mono ?_; rintro e w8 ⟨rfl, rfl⟩; exact ⟨rfl, Grw.step hw5 ((Below.refl _ _).alloc (Nat.le_refl _) _) (Nat.le_refl _)⟩) | (with_reducible refine (compare_any x.name y.name w5).mono ?_; rintro e w8 ⟨rfl, rfl⟩; exact ⟨rfl, hw5⟩))); simp only [Act.put, List.setIfInBounds_toArray, List.set_cons_zero, List.set_cons_succ]))
  refine wpQuiet_nil ?_
  intro w7 hw7
  have hb7 : Grw w w7 := ⟨hb0.1.trans (hw7.1.mono hb0.1.size), Nat.le_trans hb0.2 hw7.2⟩
  go_wp2_with fail
  go_ret
  exact ⟨rfl, hb7⟩
end Go.Proofs.YtkommikehbbhbaaGreatDoor

/-
  The contract of delta.changed's comparator at leases.
-/
set_option linter.unusedVariables false
set_option linter.unusedSimpArgs false
namespace Go.Proofs.YtkommikehbbhbaaGreatDoor
open Go.RowKit
set_option maxHeartbeats 1000000 in
set_option maxRecDepth 100000 in
theorem keyxL_any (x : LeaseD) (w : World) :
    Calls Tryz.prog 48 #[.agg #[Value.string x.job, Value.string x.node, Value.int .i64 x.till]] w fun e w' => e = .returned (.string x.job) ∧ w' = w.alloc (.cells #[Value.string x.job, Value.string x.node, Value.int .i64 x.till] 48) := by
  go_enter Tryz.func48, Tryz.ntmps48
  go_wp2_with fail
  go_ret
  exact ⟨rfl, rfl⟩
set_option maxHeartbeats 4000000 in
set_option maxRecDepth 100000 in
theorem cmpL_any (gk : Nat) (x y : LeaseD) (w : World) (hk : w.cell? ⟨gk, 0, none⟩ = some (.func (.func 48) #[] #[])) (hlt : gk < w.heap.size) :
    Calls Tryz.prog 76 #[.agg #[Value.string x.job, Value.string x.node, Value.int .i64 x.till], .agg #[Value.string y.job, Value.string y.node, Value.int .i64 y.till], .pointer (some ⟨gk, 0, none⟩)] w fun e w' => e = .returned (.int .i64 (cmpB x.job y.job)) ∧ Grw w w' := by
  have hs1 : (w.alloc (.cells #[Value.string x.job, Value.string x.node, Value.int .i64 x.till] 48)).heap.size = w.heap.size + 1 := by simp
  have hb0 : Grw w ((w.alloc (.cells #[Value.string x.job, Value.string x.node, Value.int .i64 x.till] 48)).alloc (.cells #[Value.string y.job, Value.string y.node, Value.int .i64 y.till] 48)) := ⟨((Below.refl _ _).alloc (Nat.le_refl _) _).alloc (by omega) _, Nat.le_refl _⟩
  have bx0 := (Blk.new w 48 #[Value.string x.job, Value.string x.node, Value.int .i64 x.till]).alloc (.cells #[Value.string y.job, Value.string y.node, Value.int .i64 y.till] 48)
  have by0 := Blk.new (w.alloc (.cells #[Value.string x.job, Value.string x.node, Value.int .i64 x.till] 48)) 48 #[Value.string y.job, Value.string y.node, Value.int .i64 y.till]
  rw [hs1] at by0
  clear hs1
  have hk0 : ∀ W, Grw ((w.alloc (.cells #[Value.string x.job, Value.string x.node, Value.int .i64 x.till] 48)).alloc (.cells #[Value.string y.job, Value.string y.node, Value.int .i64 y.till] 48)) W → W.cell? ⟨gk, 0, none⟩ = some (.func (.func 48) #[] #[]) := fun W hW => by
    have h2 : Below w.heap.size w W := hb0.1.trans (hW.1.mono hb0.1.size)
    exact (h2.cell (p := ⟨gk, 0, none⟩) hlt).trans hk
  have HK := Lib.hid hk0
  clear hk0 hk
  go_enter Tryz.func76, Tryz.ntmps76
  go_wp2_with fail
  generalize (w.alloc _).alloc _ = w0 at *
  refine wp_region_grw (by kernel_rfl) (by kernel_rfl) ?_
  repeat (first
    | (refine wpQuiet_load_g (by first | rfl | kernel_rfl) _ _ rfl ⟨w.heap.size, 0, none⟩ rfl [Value.string x.job, Value.string x.node, Value.int .i64 x.till] _ (fun w5 hw5 => At.blk (bx0.below hw5.1 bx0.lt)) Tryz.underlying48 rfl lease_size ?_; simp only [Act.put, List.setIfInBounds_toArray, List.set_cons_zero, List.set_cons_succ])
    | (refine wpQuiet_load_g (by first | rfl | kernel_rfl) _ _ rfl ⟨w.heap.size + 1, 0, none⟩ rfl [Value.string y.job, Value.string y.node, Value.int .i64 y.till] _ (fun w5 hw5 => At.blk (by0.below hw5.1 by0.lt)) Tryz.underlying48 rfl lease_size ?_; simp only [Act.put, List.setIfInBounds_toArray, List.set_cons_zero, List.set_cons_succ])
    | (apply wpQuiet_do; (focus (first | rfl | kernel_rfl)); (focus (intro w5 hw5; have hk5 := HK.out w5 hw5; unfold Oper.quietAt; go_simp; first | rfl | exact ⟨rfl, rfl⟩ | (with_reducible refine (keyxL_any x w5).mono ?_; rintro e w8 ⟨rfl, rfl⟩; exact ⟨rfl, Grw.step hw5 ((Below.refl _ _).alloc (Nat.le_refl _) _) (Nat.le_refl _)⟩) | (with_reducible refine (keyxL_any y w5).mono ?_; rintro e w8 ⟨rfl, rfl⟩; exact ⟨rfl, Grw.step hw5 ((Below.refl _ _).alloc (Nat.le_refl _) _) (Nat.le_refl _)⟩) | (with_reducible refine (compare_any x.job y.job w5).mono ?_; rintro e w8 ⟨rfl, rfl⟩; exact ⟨rfl, hw5⟩))); simp only [Act.put, List.setIfInBounds_toArray, List.set_cons_zero, List.set_cons_succ]))
  refine wpQuiet_nil ?_
  intro w7 hw7
  have hb7 : Grw w w7 := ⟨hb0.1.trans (hw7.1.mono hb0.1.size), Nat.le_trans hb0.2 hw7.2⟩
  go_wp2_with fail
  go_ret
  exact ⟨rfl, hb7⟩
end Go.Proofs.YtkommikehbbhbaaGreatDoor

/-
  Rows of several cells, sorted: between append's words and the sort's.
-/
set_option linter.unusedVariables false
set_option linter.unusedSimpArgs false
namespace Go.Proofs.YtkommikehbbhbaaGreatDoor
open Go.RowKit Go.Maps Go.Sort Go.Shelf
section
variable {α : Type} [Inhabited α]
theorem flat_get (enc : α → List Value) (k : Nat) (hk : ∀ x, (enc x).length = k) : ∀ (l : List α) (t : Nat), t < l.length * k → (l.map enc).flatten[t]? = some ((enc l[t / k]!)[t % k]!)
  | [], t, h => by simp at h
  | x :: r, t, h => by
    have k0 : 0 < k := by rcases Nat.eq_zero_or_pos k with e | e; · subst e; simp at h
                          · exact e
    rw [List.map_cons, List.flatten_cons]
    by_cases ht : t < k
    · rw [List.getElem?_append_left (by rw [hk]; exact ht), Nat.div_eq_of_lt ht, Nat.mod_eq_of_lt ht]
      have : t < (enc x).length := by rw [hk]; exact ht
      simp [this]
    · rw [List.getElem?_append_right (by rw [hk]; omega), hk, flat_get enc k hk r (t - k) (by simp only [List.length_cons, Nat.succ_mul] at h; omega)]
      have h1 : t / k = (t - k) / k + 1 := by rw [Nat.div_eq_sub_div k0 (by omega)]
      have h2 : t % k = (t - k) % k := Nat.mod_eq_sub_mod (by omega)
      rw [h1, h2]
      rfl
omit [Inhabited α] in
theorem flatten_len (enc : α → List Value) (k : Nat) (hk : ∀ x, (enc x).length = k) (l : List α) : (l.map enc).flatten.length = l.length * k := by
  induction l with
  | nil => simp
  | cons x r ih => rw [List.map_cons, List.flatten_cons, List.length_append, ih, hk, List.length_cons, Nat.succ_mul]; omega
theorem flatK_list (enc : α → List Value) (k : Nat) (hk : ∀ x, (enc x).length = k) (l : List α) : (flatK enc k l.toArray).toList = (l.map enc).flatten := by
  apply List.ext_getElem?
  intro t
  by_cases h : t < l.length * k
  · rw [flat_get enc k hk l t h, Array.getElem?_toList, Array.getElem?_eq_getElem (by simpa using h)]
    have := get_flatK enc k l.toArray t (by simpa using h)
    rw [getElem!_pos _ t (by simpa using h)] at this
    rw [this]
    simp
  · rw [List.getElem?_eq_none (by simp; omega), List.getElem?_eq_none (by rw [flatten_len enc k hk]; omega)]
theorem holdsK_of_block {w : World} {g k : Nat} {cur : Array Value} {e : TypeId} {fr : Nat × Nat} (hfr : fr = (0, 0)) (enc : α → List Value) (hk : ∀ x, (enc x).length = k) {l : List α} (hb : w.heap[g]? = some (.cells cur e fr)) (ht : cur.toList.take (l.length * k) = (l.map enc).flatten) :
    HoldsK enc k w g 0 l.toArray := by
  subst hfr
  intro j hj
  have hj' : j < l.length * k := by simpa using hj
  refine ⟨?_, by simp [World.frozen?, hb]⟩
  have h1 : (cur.toList.take (l.length * k))[j]? = (l.map enc).flatten[j]? := by rw [ht]
  rw [List.getElem?_take_of_lt hj'] at h1
  simp only [World.cell?, hb, Nat.zero_add]
  simp only [Option.isSome_none, Bool.false_eq_true, if_false]
  rw [← Array.getElem?_toList, h1, flat_get enc k hk l j hj']
  have := get_flatK enc k l.toArray j (by simpa using hj')
  rw [this]
  simp
theorem heap_sortedK {w : World} {g n k : Nat} {os : Array Obj} {cur : Array Value} {e : TypeId} {fr : Nat × Nat} (enc : α → List Value) (d : Array α) (hb : w.heap[g]? = some (.cells cur e fr)) :
    (sortWorldK enc k w g 0 n d os).heap[g]? = some (.cells (putCells id 0 (flatK enc k d) cur) e fr) := by
  have hg : g < w.heap.size := (Array.getElem?_eq_some_iff.1 hb).1
  unfold sortWorldK putRowK
  rw [heap_grow_old _ _ (by simpa using hg)]
  simp [putRow, mapBlock, Sort.ahead, Array.getElem?_modify, hb, onCells]
theorem grownBy_sortedK {w : World} {g n k : Nat} {os : Array Obj} (enc : α → List Value) (d : Array α) : w.grownBy (sortWorldK enc k w g 0 n d os) (some g) := by
  refine ⟨rfl, rfl, rfl, by simp [sortWorldK, putRowK], fun j hk hne => ?_⟩
  unfold sortWorldK putRowK
  rw [heap_grow_old _ _ (by simpa using hk)]
  have : g ≠ j := fun e => hne (by rw [e])
  simp [putRow, mapBlock, Sort.ahead, Array.getElem?_modify, this]
theorem take_putCellsK (cur : Array Value) (F : Array Value) (h : F.size ≤ cur.size) : (putCells id 0 F cur).toList.take F.size = F.toList := by
  apply List.ext_getElem?
  intro j
  by_cases hj : j < F.size
  · rw [List.getElem?_take_of_lt hj, Array.getElem?_toList]
    simp [putCells, hj, show j < cur.size by omega]
  · rw [List.getElem?_take_eq_none (by omega), List.getElem?_eq_none (by simp; omega)]
theorem ownsRow_sortedK {w : World} {base g cap n k : Nat} {e : TypeId} {os : Array Obj} {cur : Array Value} (enc : α → List Value) (hk : ∀ x, (enc x).length = k) {ss ts : List α} (hl : ts.length = ss.length) (hbase : base ≤ g) (hb : w.heap[g]? = some (.cells cur e (0, 0)))
    (h1 : ss.length ≤ cap) (h2 : cap ≤ maxLen) (h3 : cur.size = cap * k) :
    (sortWorldK enc k w g 0 n ts.toArray os).ownsRow base e k (.slice (some ⟨g, 0, none⟩) ss.length cap) ss.length (ts.map enc).flatten := by
  have hle : ss.length * k ≤ cap * k := Nat.mul_le_mul_right k h1
  refine ⟨?_, .inr ⟨g, cap, _, rfl, hbase, heap_sortedK enc _ hb, h1, h2, by simp [putCells, h3], ?_⟩⟩
  · rw [flatten_len enc k hk, hl]
  · have := take_putCellsK cur (flatK enc k ts.toArray) (by simp [hl]; omega)
    rw [size_flatK, flatK_list enc k hk] at this
    simpa [hl] using this
end
theorem perm_of_in {α : Type} [Inhabited α] {d d' : Array α} (h : PermIn 0 d.size d d') : d'.toList.Perm d.toList := by
  obtain ⟨h1, _, h3⟩ := h
  have e1 : d.extract 0 d.size = d := by simp
  have e2 : d'.extract 0 d.size = d' := by rw [← h1]; simp
  rwa [e1, e2] at h3
theorem sorted_of_in {α : Type} [Inhabited α] {lt : α → α → Bool} {d' : Array α} (h : SortedIn lt 0 d'.size d') : d'.toList.Pairwise fun x y => lt y x = false := by
  rw [List.pairwise_iff_getElem]
  intro i j hi hj hij
  have := h i j (Nat.zero_le _) hij (by simpa using hj)
  rw [getElem!_pos d' i (by simpa using hi), getElem!_pos d' j (by simpa using hj)] at this
  simpa using this
end Go.Proofs.YtkommikehbbhbaaGreatDoor

/-
  Contracts of slices.SortFunc and slices.SortedFunc at jobs by delta.changed's comparator.
-/
set_option linter.unusedVariables false
set_option linter.unusedSimpArgs false
namespace Go.Proofs.YtkommikehbbhbaaGreatDoor
open Go.RowKit Go.Maps Go.Sort Go.Shelf
def cfJ (x y : JobD) : Int := cmpB x.name y.name
theorem cfJ_lt (x y : JobD) : ltOf cfJ x y = ltS x.name y.name := cmpB_lt _ _
theorem swoJ : SWO (ltOf cfJ) where
  irrefl x := by rw [cfJ_lt]; exact ltS_irrefl _
  trans x y z h1 h2 := by rw [cfJ_lt] at *; exact ltS_trans h1 h2
  ntrans x y z h1 h2 := by
    rw [cfJ_lt] at *
    rcases ltS_total x.name y.name with h | h | h
    · rw [h] at h1; cases h1
    · rw [h]; exact h2
    · rcases ltS_total y.name z.name with h' | h' | h'
      · rw [h'] at h2; cases h2
      · rw [← h']; exact h1
      · cases hc : ltS x.name z.name
        · rfl
        · have := ltS_trans hc h'
          rw [this] at h1; cases h1
theorem rowJ_len (x : JobD) : (rowJ x).length = 5 := rfl
theorem rowJ_one (x : JobD) : ∀ v ∈ rowJ x, v.oneCell' = true := by
  intro v hv
  simp [rowJ] at hv
  rcases hv with rfl | rfl | rfl | rfl | rfl <;> rfl
instance : Inhabited JobD := ⟨⟨ByteArray.empty, 0, 0, 0, ByteArray.empty⟩⟩
set_option maxRecDepth 100000 in
theorem sortJ_any (gk g cap : Nat) (ss : List JobD) (cur : Array Value) (w : World) (hk : w.cell? ⟨gk, 0, none⟩ = some (.func (.func 44) #[] #[])) (hlt : gk < w.heap.size) (hne : gk ≠ g)
    (hb : w.heap[g]? = some (.cells cur 44 (0, 0))) (ht : cur.toList.take (ss.length * 5) = (ss.map rowJ).flatten) (hl : ss.length ≤ 1000000000) :
    Calls Tryz.prog 112 #[.slice (some ⟨g, 0, none⟩) ss.length cap, .func (.func 69) #[] #[.pointer (some ⟨gk, 0, none⟩)]] w fun e w' =>
      e = .returned (.tuple #[]) ∧ ∃ (ts : List JobD) (n : Nat) (os : Array Obj), ts.Perm ss ∧ ts.Pairwise (fun x y => ltS y.name x.name = false) ∧ w' = sortWorldK rowJ 5 w g 0 n ts.toArray os := by
  have hglt : g < w.heap.size := (Array.getElem?_eq_some_iff.1 hb).1
  have hc : CmpLays Tryz.prog 69 #[.pointer (some ⟨gk, 0, none⟩)] rowJ 5 cfJ g 0 ss.toArray.size w := fun m os dk hs x y => by
    have hk' : (sortWorldK rowJ 5 w g 0 m dk os).cell? ⟨gk, 0, none⟩ = some (.func (.func 44) #[] #[]) := by
      rw [cell?_sortWorldK_other rowJ 5 w g 0 m dk os ⟨gk, 0, none⟩ hne hlt]; exact hk
    have hlt' : gk < (sortWorldK rowJ 5 w g 0 m dk os).heap.size := by
      have := (grownBy_sortedK (w := w) (g := g) (n := m) (k := 5) (os := os) rowJ dk).size
      omega
    exact (cmpJ_any gk x y _ hk' hlt').mono fun e w' h => ⟨h.1, Grw.is h.2⟩
  have hH := holdsK_of_block rfl rowJ rowJ_len hb ht
  have h := AnyQ.slices_SortFunc Tryz.laysJsort 5 (fun w => by kernel_rfl) (fun w => by kernel_rfl) rowJ rowJ_len rowJ_one cfJ swoJ 69 #[.pointer (some ⟨gk, 0, none⟩)] g 0 cap ss.toArray w (fun args w => by kernel_rfl) hc hH hglt (by simp; omega)
  refine Calls.mono h ?_
  rintro e w' ⟨rfl, d', n, os, hp, hs, rfl⟩
  have hsz : d'.size = ss.toArray.size := hp.1
  rw [← hsz] at hs
  refine ⟨rfl, d'.toList, n, os, by simpa using perm_of_in hp, ?_, rfl⟩
  exact (sorted_of_in hs).imp (fun h => by rwa [cfJ_lt] at h)
set_option maxRecDepth 100000 in
theorem sortJ_none (gk cap : Nat) (p : Option Addr) (w : World) :
    Calls Tryz.prog 112 #[.slice p 0 cap, .func (.func 69) #[] #[.pointer (some ⟨gk, 0, none⟩)]] w fun e w' => e = .returned (.tuple #[]) ∧ w' = w :=
  AnyF.slices_SortFunc_none Tryz.laysJsort p cap _ w
set_option maxRecDepth 100000 in
set_option maxHeartbeats 2000000 in
/-- SortedFunc of a map's values by their key. -/
theorem sortedJ_any (gk Bm b nn : Nat) (f : List UInt8 → Option JobD) (w : World) (hk : w.cell? ⟨gk, 0, none⟩ = some (.func (.func 44) #[] #[])) (hlt : gk < w.heap.size) (hBm : Bm < w.heap.size) (hm : w.cell? ⟨Bm, 0, none⟩ = some (.map (some b))) (hown : OM Tryz.prog 9 w b nn (fun k => (f k).map fun x => Value.agg #[Value.string x.name, Value.int .i64 x.prio, Value.int .i64 x.need, Value.int .i64 x.tries, Value.string x.tag])) (hnn : nn ≤ 1000000000) :
    Calls Tryz.prog 67 #[.func (.func 113) #[] #[.pointer (some ⟨Bm, 0, none⟩)], .func (.func 69) #[] #[.pointer (some ⟨gk, 0, none⟩)]] w fun e w' =>
      ∃ (v : Value) (ss ts : List JobD), e = .returned v ∧ AllV f ss ∧ ts.Perm ss ∧ ts.Pairwise (fun x y => ltS y.name x.name = false) ∧ w'.ownsRow w.heap.size 44 5 v ts.length (ts.map rowJ).flatten ∧ Below w.heap.size w w' := by
  have HC := Lib.hid (collectJ_any Bm b nn f w hBm hm hown hnn)
  clear hm hown
  go_enter Tryz.func67, Tryz.ntmps67
  go_wp2_with fail
  refine HC.out.mono ?_
  rintro e w1 ⟨v, ss, rfl, ⟨hA, hlen⟩, hrow, hnil, hb1⟩
  have hk1 := (hb1.cell (p := ⟨gk, 0, none⟩) hlt).trans hk
  have hlt1 : gk < w1.heap.size := Nat.lt_of_lt_of_le hlt hb1.size
  rcases hrow.2 with ⟨rfl, hz⟩ | ⟨g, cap, cur, rfl, hbase, hgb, r1, r2, r3, r4⟩
  · have hss : ss = [] := List.eq_nil_of_length_eq_zero hz
    subst hss
    go_wp2_with (fail)
    refine (sortJ_none gk 0 none w1).mono ?_
    rintro e w2 ⟨rfl, rfl⟩
    go_wp2_with (fail)
    go_ret
    exact ⟨_, [], [], rfl, hA, .refl _, .nil, hrow, hb1⟩
  · have HS := Lib.hid (sortJ_any gk g cap ss cur w1 hk1 hlt1 (by omega) hgb r4 (by omega))
    go_wp2_with (fail)
    refine HS.out.mono ?_
    rintro e w2 ⟨rfl, ts, n, os, hp, hs, hw2⟩
    have ho2 : w2.ownsRow w.heap.size 44 5 (.slice (some ⟨g, 0, none⟩) ss.length cap) ss.length (ts.map rowJ).flatten := by rw [hw2]; exact ownsRow_sortedK rowJ rowJ_len hp.length_eq hbase hgb r1 r2 r3
    have hg2 : w1.grownBy w2 (some g) := by rw [hw2]; exact grownBy_sortedK _ _
    clear hw2
    go_wp2_with (fail)
    go_ret
    exact ⟨_, ss, ts, rfl, hA, hp, hs, by rw [hp.length_eq]; exact ho2, hb1.grown hg2 hb1.size (fun j hj => by cases hj; exact hbase)⟩
end Go.Proofs.YtkommikehbbhbaaGreatDoor

/-
  Contracts of slices.SortFunc and slices.SortedFunc at nodes by delta.changed's comparator.
-/
set_option linter.unusedVariables false
set_option linter.unusedSimpArgs false
namespace Go.Proofs.YtkommikehbbhbaaGreatDoor
open Go.RowKit Go.Maps Go.Sort Go.Shelf
def cfN (x y : NodeD) : Int := cmpB x.name y.name
theorem cfN_lt (x y : NodeD) : ltOf cfN x y = ltS x.name y.name := cmpB_lt _ _
theorem swoN : SWO (ltOf cfN) where
  irrefl x := by rw [cfN_lt]; exact ltS_irrefl _
  trans x y z h1 h2 := by rw [cfN_lt] at *; exact ltS_trans h1 h2
  ntrans x y z h1 h2 := by
    rw [cfN_lt] at *
    rcases ltS_total x.name y.name with h | h | h
    · rw [h] at h1; cases h1
    · rw [h]; exact h2
    · rcases ltS_total y.name z.name with h' | h' | h'
      · rw [h'] at h2; cases h2
      · rw [← h']; exact h1
      · cases hc : ltS x.name z.name
        · rfl
        · have := ltS_trans hc h'
          rw [this] at h1; cases h1
theorem rowN_len (x : NodeD) : (rowN x).length = 3 := rfl
theorem rowN_one (x : NodeD) : ∀ v ∈ rowN x, v.oneCell' = true := by
  intro v hv
  simp [rowN] at hv
  rcases hv with rfl | rfl | rfl <;> rfl
instance : Inhabited NodeD := ⟨⟨ByteArray.empty, 0, ByteArray.empty⟩⟩
set_option maxRecDepth 100000 in
theorem sortN_any (gk g cap : Nat) (ss : List NodeD) (cur : Array Value) (w : World) (hk : w.cell? ⟨gk, 0, none⟩ = some (.func (.func 46) #[] #[])) (hlt : gk < w.heap.size) (hne : gk ≠ g)
    (hb : w.heap[g]? = some (.cells cur 46 (0, 0))) (ht : cur.toList.take (ss.length * 3) = (ss.map rowN).flatten) (hl : ss.length ≤ 1000000000) :
    Calls Tryz.prog 116 #[.slice (some ⟨g, 0, none⟩) ss.length cap, .func (.func 73) #[] #[.pointer (some ⟨gk, 0, none⟩)]] w fun e w' =>
      e = .returned (.tuple #[]) ∧ ∃ (ts : List NodeD) (n : Nat) (os : Array Obj), ts.Perm ss ∧ ts.Pairwise (fun x y => ltS y.name x.name = false) ∧ w' = sortWorldK rowN 3 w g 0 n ts.toArray os := by
  have hglt : g < w.heap.size := (Array.getElem?_eq_some_iff.1 hb).1
  have hc : CmpLays Tryz.prog 73 #[.pointer (some ⟨gk, 0, none⟩)] rowN 3 cfN g 0 ss.toArray.size w := fun m os dk hs x y => by
    have hk' : (sortWorldK rowN 3 w g 0 m dk os).cell? ⟨gk, 0, none⟩ = some (.func (.func 46) #[] #[]) := by
      rw [cell?_sortWorldK_other rowN 3 w g 0 m dk os ⟨gk, 0, none⟩ hne hlt]; exact hk
    have hlt' : gk < (sortWorldK rowN 3 w g 0 m dk os).heap.size := by
      have := (grownBy_sortedK (w := w) (g := g) (n := m) (k := 3) (os := os) rowN dk).size
      omega
    exact (cmpN_any gk x y _ hk' hlt').mono fun e w' h => ⟨h.1, Grw.is h.2⟩
  have hH := holdsK_of_block rfl rowN rowN_len hb ht
  have h := AnyQ.slices_SortFunc Tryz.laysNsort 3 (fun w => by kernel_rfl) (fun w => by kernel_rfl) rowN rowN_len rowN_one cfN swoN 73 #[.pointer (some ⟨gk, 0, none⟩)] g 0 cap ss.toArray w (fun args w => by kernel_rfl) hc hH hglt (by simp; omega)
  refine Calls.mono h ?_
  rintro e w' ⟨rfl, d', n, os, hp, hs, rfl⟩
  have hsz : d'.size = ss.toArray.size := hp.1
  rw [← hsz] at hs
  refine ⟨rfl, d'.toList, n, os, by simpa using perm_of_in hp, ?_, rfl⟩
  exact (sorted_of_in hs).imp (fun h => by rwa [cfN_lt] at h)
set_option maxRecDepth 100000 in
theorem sortN_none (gk cap : Nat) (p : Option Addr) (w : World) :
    Calls Tryz.prog 116 #[.slice p 0 cap, .func (.func 73) #[] #[.pointer (some ⟨gk, 0, none⟩)]] w fun e w' => e = .returned (.tuple #[]) ∧ w' = w :=
  AnyF.slices_SortFunc_none Tryz.laysNsort p cap _ w
set_option maxRecDepth 100000 in
set_option maxHeartbeats 2000000 in
/-- SortedFunc of a map's values by their key. -/
theorem sortedN_any (gk Bm b nn : Nat) (f : List UInt8 → Option NodeD) (w : World) (hk : w.cell? ⟨gk, 0, none⟩ = some (.func (.func 46) #[] #[])) (hlt : gk < w.heap.size) (hBm : Bm < w.heap.size) (hm : w.cell? ⟨Bm, 0, none⟩ = some (.map (some b))) (hown : OM Tryz.prog 9 w b nn (fun k => (f k).map fun x => Value.agg #[Value.string x.name, Value.int .i64 x.room, Value.string x.zone])) (hnn : nn ≤ 1000000000) :
    Calls Tryz.prog 71 #[.func (.func 117) #[] #[.pointer (some ⟨Bm, 0, none⟩)], .func (.func 73) #[] #[.pointer (some ⟨gk, 0, none⟩)]] w fun e w' =>
      ∃ (v : Value) (ss ts : List NodeD), e = .returned v ∧ AllV f ss ∧ ts.Perm ss ∧ ts.Pairwise (fun x y => ltS y.name x.name = false) ∧ w'.ownsRow w.heap.size 46 3 v ts.length (ts.map rowN).flatten ∧ Below w.heap.size w w' := by
  have HC := Lib.hid (collectN_any Bm b nn f w hBm hm hown hnn)
  clear hm hown
  go_enter Tryz.func71, Tryz.ntmps71
  go_wp2_with fail
  refine HC.out.mono ?_
  rintro e w1 ⟨v, ss, rfl, ⟨hA, hlen⟩, hrow, hnil, hb1⟩
  have hk1 := (hb1.cell (p := ⟨gk, 0, none⟩) hlt).trans hk
  have hlt1 : gk < w1.heap.size := Nat.lt_of_lt_of_le hlt hb1.size
  rcases hrow.2 with ⟨rfl, hz⟩ | ⟨g, cap, cur, rfl, hbase, hgb, r1, r2, r3, r4⟩
  · have hss : ss = [] := List.eq_nil_of_length_eq_zero hz
    subst hss
    go_wp2_with (fail)
    refine (sortN_none gk 0 none w1).mono ?_
    rintro e w2 ⟨rfl, rfl⟩
    go_wp2_with (fail)
    go_ret
    exact ⟨_, [], [], rfl, hA, .refl _, .nil, hrow, hb1⟩
  · have HS := Lib.hid (sortN_any gk g cap ss cur w1 hk1 hlt1 (by omega) hgb r4 (by omega))
    go_wp2_with (fail)
    refine HS.out.mono ?_
    rintro e w2 ⟨rfl, ts, n, os, hp, hs, hw2⟩
    have ho2 : w2.ownsRow w.heap.size 46 3 (.slice (some ⟨g, 0, none⟩) ss.length cap) ss.length (ts.map rowN).flatten := by rw [hw2]; exact ownsRow_sortedK rowN rowN_len hp.length_eq hbase hgb r1 r2 r3
    have hg2 : w1.grownBy w2 (some g) := by rw [hw2]; exact grownBy_sortedK _ _
    clear hw2
    go_wp2_with (fail)
    go_ret
    exact ⟨_, ss, ts, rfl, hA, hp, hs, by rw [hp.length_eq]; exact ho2, hb1.grown hg2 hb1.size (fun j hj => by cases hj; exact hbase)⟩
end Go.Proofs.YtkommikehbbhbaaGreatDoor

/-
  Contracts of slices.SortFunc and slices.SortedFunc at leases by delta.changed's comparator.
-/
set_option linter.unusedVariables false
set_option linter.unusedSimpArgs false
namespace Go.Proofs.YtkommikehbbhbaaGreatDoor
open Go.RowKit Go.Maps Go.Sort Go.Shelf
def cfL (x y : LeaseD) : Int := cmpB x.job y.job
theorem cfL_lt (x y : LeaseD) : ltOf cfL x y = ltS x.job y.job := cmpB_lt _ _
theorem swoL : SWO (ltOf cfL) where
  irrefl x := by rw [cfL_lt]; exact ltS_irrefl _
  trans x y z h1 h2 := by rw [cfL_lt] at *; exact ltS_trans h1 h2
  ntrans x y z h1 h2 := by
    rw [cfL_lt] at *
    rcases ltS_total x.job y.job with h | h | h
    · rw [h] at h1; cases h1
    · rw [h]; exact h2
    · rcases ltS_total y.job z.job with h' | h' | h'
      · rw [h'] at h2; cases h2
      · rw [← h']; exact h1
      · cases hc : ltS x.job z.job
        · rfl
        · have := ltS_trans hc h'
          rw [this] at h1; cases h1
theorem rowL_len (x : LeaseD) : (rowL x).length = 3 := rfl
theorem rowL_one (x : LeaseD) : ∀ v ∈ rowL x, v.oneCell' = true := by
  intro v hv
  simp [rowL] at hv
  rcases hv with rfl | rfl | rfl <;> rfl
instance : Inhabited LeaseD := ⟨⟨ByteArray.empty, ByteArray.empty, 0⟩⟩
set_option maxRecDepth 100000 in
theorem sortL_any (gk g cap : Nat) (ss : List LeaseD) (cur : Array Value) (w : World) (hk : w.cell? ⟨gk, 0, none⟩ = some (.func (.func 48) #[] #[])) (hlt : gk < w.heap.size) (hne : gk ≠ g)
    (hb : w.heap[g]? = some (.cells cur 48 (0, 0))) (ht : cur.toList.take (ss.length * 3) = (ss.map rowL).flatten) (hl : ss.length ≤ 1000000000) :
    Calls Tryz.prog 119 #[.slice (some ⟨g, 0, none⟩) ss.length cap, .func (.func 76) #[] #[.pointer (some ⟨gk, 0, none⟩)]] w fun e w' =>
      e = .returned (.tuple #[]) ∧ ∃ (ts : List LeaseD) (n : Nat) (os : Array Obj), ts.Perm ss ∧ ts.Pairwise (fun x y => ltS y.job x.job = false) ∧ w' = sortWorldK rowL 3 w g 0 n ts.toArray os := by
  have hglt : g < w.heap.size := (Array.getElem?_eq_some_iff.1 hb).1
  have hc : CmpLays Tryz.prog 76 #[.pointer (some ⟨gk, 0, none⟩)] rowL 3 cfL g 0 ss.toArray.size w := fun m os dk hs x y => by
    have hk' : (sortWorldK rowL 3 w g 0 m dk os).cell? ⟨gk, 0, none⟩ = some (.func (.func 48) #[] #[]) := by
      rw [cell?_sortWorldK_other rowL 3 w g 0 m dk os ⟨gk, 0, none⟩ hne hlt]; exact hk
    have hlt' : gk < (sortWorldK rowL 3 w g 0 m dk os).heap.size := by
      have := (grownBy_sortedK (w := w) (g := g) (n := m) (k := 3) (os := os) rowL dk).size
      omega
    exact (cmpL_any gk x y _ hk' hlt').mono fun e w' h => ⟨h.1, Grw.is h.2⟩
  have hH := holdsK_of_block rfl rowL rowL_len hb ht
  have h := AnyQ.slices_SortFunc Tryz.laysLsort 3 (fun w => by kernel_rfl) (fun w => by kernel_rfl) rowL rowL_len rowL_one cfL swoL 76 #[.pointer (some ⟨gk, 0, none⟩)] g 0 cap ss.toArray w (fun args w => by kernel_rfl) hc hH hglt (by simp; omega)
  refine Calls.mono h ?_
  rintro e w' ⟨rfl, d', n, os, hp, hs, rfl⟩
  have hsz : d'.size = ss.toArray.size := hp.1
  rw [← hsz] at hs
  refine ⟨rfl, d'.toList, n, os, by simpa using perm_of_in hp, ?_, rfl⟩
  exact (sorted_of_in hs).imp (fun h => by rwa [cfL_lt] at h)
set_option maxRecDepth 100000 in
theorem sortL_none (gk cap : Nat) (p : Option Addr) (w : World) :
    Calls Tryz.prog 119 #[.slice p 0 cap, .func (.func 76) #[] #[.pointer (some ⟨gk, 0, none⟩)]] w fun e w' => e = .returned (.tuple #[]) ∧ w' = w :=
  AnyF.slices_SortFunc_none Tryz.laysLsort p cap _ w
set_option maxRecDepth 100000 in
set_option maxHeartbeats 2000000 in
/-- SortedFunc of a map's values by their key. -/
theorem sortedL_any (gk Bm b nn : Nat) (f : List UInt8 → Option LeaseD) (w : World) (hk : w.cell? ⟨gk, 0, none⟩ = some (.func (.func 48) #[] #[])) (hlt : gk < w.heap.size) (hBm : Bm < w.heap.size) (hm : w.cell? ⟨Bm, 0, none⟩ = some (.map (some b))) (hown : OM Tryz.prog 9 w b nn (fun k => (f k).map fun x => Value.agg #[Value.string x.job, Value.string x.node, Value.int .i64 x.till])) (hnn : nn ≤ 1000000000) :
    Calls Tryz.prog 74 #[.func (.func 120) #[] #[.pointer (some ⟨Bm, 0, none⟩)], .func (.func 76) #[] #[.pointer (some ⟨gk, 0, none⟩)]] w fun e w' =>
      ∃ (v : Value) (ss ts : List LeaseD), e = .returned v ∧ AllV f ss ∧ ts.Perm ss ∧ ts.Pairwise (fun x y => ltS y.job x.job = false) ∧ w'.ownsRow w.heap.size 48 3 v ts.length (ts.map rowL).flatten ∧ Below w.heap.size w w' := by
  have HC := Lib.hid (collectL_any Bm b nn f w hBm hm hown hnn)
  clear hm hown
  go_enter Tryz.func74, Tryz.ntmps74
  go_wp2_with fail
  refine HC.out.mono ?_
  rintro e w1 ⟨v, ss, rfl, ⟨hA, hlen⟩, hrow, hnil, hb1⟩
  have hk1 := (hb1.cell (p := ⟨gk, 0, none⟩) hlt).trans hk
  have hlt1 : gk < w1.heap.size := Nat.lt_of_lt_of_le hlt hb1.size
  rcases hrow.2 with ⟨rfl, hz⟩ | ⟨g, cap, cur, rfl, hbase, hgb, r1, r2, r3, r4⟩
  · have hss : ss = [] := List.eq_nil_of_length_eq_zero hz
    subst hss
    go_wp2_with (fail)
    refine (sortL_none gk 0 none w1).mono ?_
    rintro e w2 ⟨rfl, rfl⟩
    go_wp2_with (fail)
    go_ret
    exact ⟨_, [], [], rfl, hA, .refl _, .nil, hrow, hb1⟩
  · have HS := Lib.hid (sortL_any gk g cap ss cur w1 hk1 hlt1 (by omega) hgb r4 (by omega))
    go_wp2_with (fail)
    refine HS.out.mono ?_
    rintro e w2 ⟨rfl, ts, n, os, hp, hs, hw2⟩
    have ho2 : w2.ownsRow w.heap.size 48 3 (.slice (some ⟨g, 0, none⟩) ss.length cap) ss.length (ts.map rowL).flatten := by rw [hw2]; exact ownsRow_sortedK rowL rowL_len hp.length_eq hbase hgb r1 r2 r3
    have hg2 : w1.grownBy w2 (some g) := by rw [hw2]; exact grownBy_sortedK _ _
    clear hw2
    go_wp2_with (fail)
    go_ret
    exact ⟨_, ss, ts, rfl, hA, hp, hs, by rw [hp.length_eq]; exact ho2, hb1.grown hg2 hb1.size (fun j hj => by cases hj; exact hbase)⟩
end Go.Proofs.YtkommikehbbhbaaGreatDoor
