/-
  The contract of (*tables).lease.
-/
import Derived.Test.YtoepchgoacdodaaDoorRowsH
import Derived.Test.YtoepchgoacdodaaDoorMaps
set_option linter.unusedVariables false
set_option linter.unusedSimpArgs false
namespace Go.Proofs.YtoepchgoacdodaaDoor
open Go.RowKit
def valJ (j : JobD) : Value := .agg #[.string j.name, .int .i64 j.prio, .int .i64 j.need, .int .i64 j.tries, .string j.tag]
def valN (n : NodeD) : Value := .agg #[.string n.name, .int .i64 n.room, .string n.zone]
def zJ : JobD := ⟨ByteArray.empty, 0, 0, 0, ByteArray.empty⟩
def zN : NodeD := ⟨ByteArray.empty, 0, ByteArray.empty⟩
theorem zero_job (W : World) : (zeroValue 44).run Tryd.prog W = .ok (valJ zJ) W := by kernel_rfl
theorem zero_node (W : World) : (zeroValue 48).run Tryd.prog W = .ok (valN zN) W := by kernel_rfl
theorem zero_int (W : World) : (zeroValue 3).run Tryd.prog W = .ok (.int .i64 0) W := by kernel_rfl
theorem zero_job_lit (W : World) : (zeroValue 44).run Tryd.prog W = .ok (.agg #[.string ByteArray.empty, .int .i64 0, .int .i64 0, .int .i64 0, .string ByteArray.empty]) W := by kernel_rfl
theorem zero_node_lit (W : World) : (zeroValue 48).run Tryd.prog W = .ok (.agg #[.string ByteArray.empty, .int .i64 0, .string ByteArray.empty]) W := by kernel_rfl
/-- The tables of a state: three maps. -/
structure TabIs (w : World) (gt bj bn bu : Nat) (jobs : List JobD) (nodes : List NodeD) (u : ByteArray → Int) where
  blk : Blk w gt 65 #[.map (some bj), .map (some bn), .map (some bu)]
  mj : ∃ m, MapIs w bj m ∧ ∀ nm, getM m nm = (jobAt jobs nm).map valJ
  mn : ∃ m, MapIs w bn m ∧ ∀ nm, getM m nm = (nodeAt nodes nm).map valN
  mu : ∃ m, MapIs w bu m ∧ ∀ nm, (getM m nm).getD (.int .i64 0) = .int .i64 (u nm)
theorem MapIs.below {w w' : World} {b : Nat} {m : List (ByteArray × Value)} (h : MapIs w b m) (hb : Below w.heap.size w w') : MapIs w' b m := by
  obtain ⟨es, c, h1, h2⟩ := h
  have hlt : b < w.heap.size := (Array.getElem?_eq_some_iff.1 h1).1
  exact ⟨es, c, (hb.block b hlt).trans h1, h2⟩
theorem MapIs.lt {w : World} {b : Nat} {m : List (ByteArray × Value)} (h : MapIs w b m) : b < w.heap.size := by
  obtain ⟨es, c, h1, h2⟩ := h
  exact (Array.getElem?_eq_some_iff.1 h1).1
theorem MapIs.grown {w w' : World} {b : Nat} {m : List (ByteArray × Value)} {row : Option Nat} (h : MapIs w b m) (hg : w.grownBy w' row) (hne : some b ≠ row) : MapIs w' b m := by
  have hlt := h.lt
  obtain ⟨es, c, h1, h2⟩ := h
  exact ⟨es, c, (hg.block b hlt hne).trans h1, h2⟩
theorem TabIs.below {w w' : World} {gt bj bn bu : Nat} {jobs : List JobD} {nodes : List NodeD} {u : ByteArray → Int} (h : TabIs w gt bj bn bu jobs nodes u) (hb : Below w.heap.size w w') : TabIs w' gt bj bn bu jobs nodes u where
  blk := h.blk.below hb h.blk.lt
  mj := by obtain ⟨m, h1, h2⟩ := h.mj; exact ⟨m, h1.below hb, h2⟩
  mn := by obtain ⟨m, h1, h2⟩ := h.mn; exact ⟨m, h1.below hb, h2⟩
  mu := by obtain ⟨m, h1, h2⟩ := h.mu; exact ⟨m, h1.below hb, h2⟩
def fitB (jobs : List JobD) (nodes : List NodeD) (l : LeaseD) : Bool := (jobAt jobs l.job).isSome && (nodeAt nodes l.node).isSome
section
variable {w : World} {gt bj bn bu : Nat} {jobs : List JobD} {nodes : List NodeD} {u : ByteArray → Int}
theorem TabIs.lookJ (h : TabIs w gt bj bn bu jobs nodes u) (s : ByteArray) : (Instr.lookup 61 (.map (some bj)) (.string s) true).run Tryd.prog w = .ok (.tuple #[valJ ((jobAt jobs s).getD zJ), .bool (jobAt jobs s).isSome]) w := by
  obtain ⟨m, hm, hg⟩ := h.mj
  have := run_lookup_map (P := Tryd.prog) hm Tryd.underlying61 Tryd.underlying9 s _ (zero_job _) true
  rw [hg] at this
  rw [this]
  cases jobAt jobs s <;> rfl
theorem TabIs.lookN (h : TabIs w gt bj bn bu jobs nodes u) (s : ByteArray) : (Instr.lookup 62 (.map (some bn)) (.string s) true).run Tryd.prog w = .ok (.tuple #[valN ((nodeAt nodes s).getD zN), .bool (nodeAt nodes s).isSome]) w := by
  obtain ⟨m, hm, hg⟩ := h.mn
  have := run_lookup_map (P := Tryd.prog) hm Tryd.underlying62 Tryd.underlying9 s _ (zero_node _) true
  rw [hg] at this
  rw [this]
  cases nodeAt nodes s <;> rfl
theorem TabIs.lookU (h : TabIs w gt bj bn bu jobs nodes u) (s : ByteArray) : (Instr.lookup 63 (.map (some bu)) (.string s) false).run Tryd.prog w = .ok (.int .i64 (u s)) w := by
  obtain ⟨m, hm, hg⟩ := h.mu
  have := run_lookup_map (P := Tryd.prog) hm Tryd.underlying63 Tryd.underlying9 s _ (zero_int _) false
  rw [hg] at this
  rw [this]; rfl
def addAt (u : ByteArray → Int) (s : ByteArray) (n : Int) : ByteArray → Int := fun x => if s = x then u s + n else u x
theorem TabIs.putU (h : TabIs w gt bj bn bu jobs nodes u) (hne : gt ≠ bu ∧ bj ≠ bu ∧ bn ≠ bu) (s : ByteArray) (n : Int) : ∃ w', (Instr.mapUpdate 63 (.map (some bu)) (.string s) (.int .i64 (u s + n))).run Tryd.prog w = .ok () w' ∧ TabIs w' gt bj bn bu jobs nodes (addAt u s n) ∧ w.grownBy w' (some bu) := by
  obtain ⟨m, hm, hg⟩ := h.mu
  obtain ⟨w', h1, h2, h3, h4⟩ := run_update_map (P := Tryd.prog) hm Tryd.underlying63 Tryd.underlying9 s (.int .i64 (u s + n))
  refine ⟨w', h1, ⟨?_, ?_, ?_, ⟨_, h2, fun nm => ?_⟩⟩, h3⟩
  · exact (h3.block gt h.blk.lt (by intro h0; injection h0 with h0; exact hne.1 h0)).trans h.blk
  · obtain ⟨m, a1, a2⟩ := h.mj
    exact ⟨m, a1.grown h3 (by intro h0; injection h0 with h0; exact hne.2.1 h0), a2⟩
  · obtain ⟨m, a1, a2⟩ := h.mn
    exact ⟨m, a1.grown h3 (by intro h0; injection h0 with h0; exact hne.2.2 h0), a2⟩
  · rw [getM_put]
    unfold addAt
    by_cases h5 : s = nm
    · rw [if_pos h5, if_pos h5]; rfl
    · rw [if_neg h5, if_neg h5]; exact hg nm
end
/-- What a lease that is taken in leaves. -/
def LeasePost (w : World) (gt bj bn bu : Nat) (jobs : List JobD) (nodes : List NodeD) (u : ByteArray → Int) (l : LeaseD) (e : Ending) (w' : World) : Prop :=
  e = .returned (.int .i64 (leaseE jobs nodes l : Int)) ∧ w.grownBy w' (some bu) ∧ (fitB jobs nodes l = true → TabIs w' gt bj bn bu jobs nodes (addAt u l.node (needOf jobs l.job)))
theorem grown_below {a b : World} (h : Below a.heap.size a b) (r : Option Nat) : a.grownBy b r := ⟨h.os, h.tape, h.output, h.size, fun k hk _ => h.block k hk⟩
theorem grown_trans {a b c : World} {r : Option Nat} (h1 : a.grownBy b r) (h2 : b.grownBy c r) : a.grownBy c r :=
  ⟨h2.os.trans h1.os, h2.tape.trans h1.tape, h2.output.trans h1.output, Nat.le_trans h1.size h2.size, fun k hk hne => (h2.block k (Nat.lt_of_lt_of_le hk h1.size) hne).trans (h1.block k hk hne)⟩
set_option maxHeartbeats 4000000 in
set_option maxRecDepth 100000 in
theorem lease_any (l : LeaseD) (gt bj bn bu : Nat) (jobs : List JobD) (nodes : List NodeD) (u : ByteArray → Int) (w : World) (h : TabIs w gt bj bn bu jobs nodes u) (hne : gt ≠ bu ∧ bj ≠ bu ∧ bn ≠ bu)
    (hu : -1000000000000 ≤ u l.node ∧ u l.node ≤ 1000000000000) (hn : -1000000000000 ≤ needOf jobs l.job ∧ needOf jobs l.job ≤ 1000000000000) :
    Calls Tryd.prog 28 #[.pointer (some ⟨gt, 0, none⟩), .agg #[.string l.job, .string l.node, .int .i64 l.till]] w fun e w' => LeasePost w gt bj bn bu jobs nodes u l e w' := by
  have hlt := h.blk.lt
  have hlj := fun (W : World) (hW : Below w.heap.size w W) => (h.below hW).lookJ l.job
  have hln := fun (W : World) (hW : Below w.heap.size w W) => (h.below hW).lookN l.node
  have hnd : ((jobAt jobs l.job).getD zJ).need = needOf jobs l.job := by unfold needOf; cases jobAt jobs l.job <;> rfl
  have hle : leaseE jobs nodes l = if (jobAt jobs l.job).isSome && (nodeAt nodes l.node).isSome then (if withinB l.till 0 1099511627776 then 0 else 1) else 6 := rfl
  have hfb : fitB jobs nodes l = ((jobAt jobs l.job).isSome && (nodeAt nodes l.node).isSome) := rfl
  generalize (jobAt jobs l.job).getD zJ = j at *
  generalize (nodeAt nodes l.node).getD zN = n at *
  unfold valJ at hlj
  unfold valN at hln
  cases hj : (jobAt jobs l.job).isSome
  all_goals cases hn2 : (nodeAt nodes l.node).isSome
  all_goals
    rw [hj] at hlj hle hfb
    rw [hn2] at hln hle hfb
    have HLJ := Lib.hid hlj
    have HLN := Lib.hid hln
    have HLE := Lib.hid hle
    have HFB := Lib.hid hfb
    have HH := Lib.hid h
    have HND := Lib.hid hnd
    have hB0 : Below w.heap.size w (w.alloc (.cells #[.string l.job, .string l.node, .int .i64 l.till] 52)) := (Below.refl _ _).alloc (Nat.le_refl _) _
    have e1 := HLJ.out _ hB0
    have e1d := HLJ.out _ hB0.drew
    have e2 := fun o => HLJ.out _ (hB0.alloc hB0.size o)
    have e2d := fun o => HLJ.out _ (hB0.alloc hB0.size o).drew
    have c0a : ∀ o1, (w.alloc o1).cell? ⟨gt, 0, none⟩ = some (.map (some bj)) := fun o1 => (h.blk.alloc o1).cell 0
    have c0b : ∀ o1 o2, ((w.alloc o1).alloc o2).cell? ⟨gt, 0, none⟩ = some (.map (some bj)) := fun o1 o2 => ((h.blk.alloc o1).alloc o2).cell 0
    have hzj := zero_job_lit
    have hzn := zero_node_lit
    clear hlj hln hle hfb hj hn2 h hnd
    go_enter Tryd.func28, Tryd.ntmps28
    go_wp2_with fail
    go_big_region
    have hB1 : Below w.heap.size w ((w.alloc (.cells #[.string l.job, .string l.node, .int .i64 l.till] 52)).alloc (.cells #[.string j.name, .int .i64 j.prio, .int .i64 j.need, .int .i64 j.tries, .string j.tag] 44)).drew := (hB0.alloc hB0.size _).drew
    have bl : Blk ((w.alloc (.cells #[.string l.job, .string l.node, .int .i64 l.till] 52)).alloc (.cells #[.string j.name, .int .i64 j.prio, .int .i64 j.need, .int .i64 j.tries, .string j.tag] 44)).drew w.heap.size 52 #[.string l.job, .string l.node, .int .i64 l.till] := (Blk.new w _ _).alloc _
    have bJ : Blk ((w.alloc (.cells #[.string l.job, .string l.node, .int .i64 l.till] 52)).alloc (.cells #[.string j.name, .int .i64 j.prio, .int .i64 j.need, .int .i64 j.tries, .string j.tag] 44)).drew (w.heap.size + 1) 44 #[.string j.name, .int .i64 j.prio, .int .i64 j.need, .int .i64 j.tries, .string j.tag] := by
      have := Blk.new (w.alloc (.cells #[.string l.job, .string l.node, .int .i64 l.till] 52)) 44 #[.string j.name, .int .i64 j.prio, .int .i64 j.need, .int .i64 j.tries, .string j.tag]
      rwa [show (w.alloc (.cells #[.string l.job, .string l.node, .int .i64 l.till] 52)).heap.size = w.heap.size + 1 by simp] at this
    clear e1 e1d e2 e2d c0a c0b hzj hB0
    generalize ((w.alloc (.cells #[.string l.job, .string l.node, .int .i64 l.till] 52)).alloc (.cells #[.string j.name, .int .i64 j.prio, .int .i64 j.need, .int .i64 j.tries, .string j.tag] 44)).drew = W at *
    have e1 := HLN.out _ hB1
    have e1d := HLN.out _ hB1.drew
    have e2 := fun o => HLN.out _ (hB1.alloc hB1.size o)
    have e2d := fun o => HLN.out _ (hB1.alloc hB1.size o).drew
    have bT := HH.out.blk.below hB1 hlt
    have c1 : W.cell? ⟨gt, 1, none⟩ = some (.map (some bn)) := bT.cell 1
    have c1a : ∀ o1, (W.alloc o1).cell? ⟨gt, 1, none⟩ = some (.map (some bn)) := fun o1 => (bT.alloc o1).cell 1
    have d1 : W.cell? ⟨w.heap.size, 1, none⟩ = some (.string l.node) := bl.cell 1
    have d1a : ∀ o1, (W.alloc o1).cell? ⟨w.heap.size, 1, none⟩ = some (.string l.node) := fun o1 => (bl.alloc o1).cell 1
    go_wp2_with fail
    go_big_region
    have hB2 : Below w.heap.size w (W.alloc (.cells #[.string n.name, .int .i64 n.room, .string n.zone] 48)).drew := (hB1.alloc hB1.size _).drew
    have bl2 : Blk (W.alloc (.cells #[.string n.name, .int .i64 n.room, .string n.zone] 48)).drew w.heap.size 52 #[.string l.job, .string l.node, .int .i64 l.till] := bl.alloc _
    have bJ2 : Blk (W.alloc (.cells #[.string n.name, .int .i64 n.room, .string n.zone] 48)).drew (w.heap.size + 1) 44 #[.string j.name, .int .i64 j.prio, .int .i64 j.need, .int .i64 j.tries, .string j.tag] := bJ.alloc _
    clear e1 e1d e2 e2d c1 c1a d1 d1a bT hB1 bl bJ hzn
    generalize (W.alloc (.cells #[.string n.name, .int .i64 n.room, .string n.zone] 48)).drew = W2 at *
  · go_wp2_with fail
    go_ret
    exact ⟨by rw [HLE.out]; rfl, grown_below hB2 _, fun h0 => by rw [HFB.out] at h0; cases h0⟩
  · go_wp2_with fail
    go_ret
    exact ⟨by rw [HLE.out]; rfl, grown_below hB2 _, fun h0 => by rw [HFB.out] at h0; cases h0⟩
  · go_wp2_with fail
    go_ret
    exact ⟨by rw [HLE.out]; rfl, grown_below hB2 _, fun h0 => by rw [HFB.out] at h0; cases h0⟩
  · have hT2 := HH.out.below hB2
    have hlu := fun (W : World) (hW : Below W2.heap.size W2 W) => (hT2.below hW).lookU l.node
    have hud := hlu _ (Below.refl _ _).drew
    have hT2d := hT2.below (Below.refl _ _).drew
    obtain ⟨w5, hup, hT5, hg5⟩ := hT2d.putU hne l.node (needOf jobs l.job)
    have c2 : W2.cell? ⟨gt, 2, none⟩ = some (.map (some bu)) := hT2.blk.cell 2
    have d1 : W2.cell? ⟨w.heap.size, 1, none⟩ = some (.string l.node) := bl2.cell 1
    have d2 : W2.cell? ⟨w.heap.size + 1, 2, none⟩ = some (.int .i64 j.need) := bJ2.cell 2
    rw [HND.out] at d2
    have hs2 := hB2.size
    have bl5 : Blk w5 w.heap.size 52 #[.string l.job, .string l.node, .int .i64 l.till] := by
      obtain ⟨m, hm, _⟩ := HH.out.mu
      have := hm.lt
      exact (hg5.block w.heap.size bl2.lt (by intro h0; injection h0 with h0; omega)).trans bl2
    have c5 : w5.cell? ⟨w.heap.size, 2, none⟩ = some (.int .i64 l.till) := bl5.cell 2
    have hw : IntKind.i64.wrap (u l.node + needOf jobs l.job) = u l.node + needOf jobs l.job := IntWalk.i64_in _ (by omega)
    have HT5 := Lib.hid hT5
    clear hT5 hT2d hT2 hlu
    go_wp2_with fail
    go_still_tail 10, (by kernel_rfl)
    change wpList _ _ _ _ _ W2.drew
    have hg6 : w.grownBy w5 (some bu) := grown_trans (grown_below hB2.drew _) hg5
    clear hud
    generalize W2.drew = W3 at *
    go_wp2_with fail
    refine (within_any _ _ _ _).mono ?_
    rintro e w6 ⟨rfl, rfl⟩
    cases hwb : withinB l.till 0 1099511627776
    · rw [hwb] at HLE
      go_wp2_with fail
      go_ret
      exact ⟨by rw [HLE.out]; rfl, hg6, fun _ => HT5.out⟩
    · rw [hwb] at HLE
      go_wp2_with fail
      go_ret
      exact ⟨by rw [HLE.out]; rfl, hg6, fun _ => HT5.out⟩
end Go.Proofs.YtoepchgoacdodaaDoor
