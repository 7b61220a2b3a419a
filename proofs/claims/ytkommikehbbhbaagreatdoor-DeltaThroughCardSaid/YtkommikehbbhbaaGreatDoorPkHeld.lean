/-
  Several texts in one: Held, LoadW.
-/
import Derived.Test.YtkommikehbbhbaaGreatDoorPkBase
import Derived.Deep.RegionHeld3
/-
  Steps of a walk through a region that draws its order, one by one. No program.
-/
set_option linter.unusedVariables false
set_option linter.unusedSimpArgs false
namespace Go.Proofs.YtkommikehbbhbaaGreatDoor
open Go.RowKit
section
variable {P : Program} {ops : Array Oper} {o : Oper} {a : Act} {w : World} {K : Act → World → Prop} {Q : Exit → Act → World → Prop} {E : Prop}
/-- A whole block is written by value. -/
theorem step_store_blk (hw : Region.wanted o (yielded ops a.tmps) = true) (ty : TypeId) (x y : Operand) (ho : o.op = .store ty x y) (g : Nat) (hx : a.eval x = .pointer (some ⟨g, 0, none⟩)) (t : TypeId) (cs cs' : Array Value) (hb : Blk w g t cs)
    (hy : a.eval y = .agg cs') (hi : (P.info? ty).map (·.size) = some cs'.size) (hs : cs.size = cs'.size) (h1 : cs'.all (·.oneCell') = true)
    (h : K (a.put o.dst undef) (w.setRow g cs')) : if Region.wanted o (yielded ops a.tmps) = true then Oper.wp P o a w K Q else E := by
  rw [if_pos hw]
  unfold Oper.wp execOp
  simp only [ho, hx, hy, Instr.storeAt, Instr.sureAddr, Sem.run_bind, Sem.run_pure, Result.andThen_ok, run_storeVar_row w g t ty cs cs' hb hi hs h1]
  exact h
end
/-- World W is w with new blocks and with writes to block g alone. -/
def GrB (w : World) (g : Nat) (W : World) : Prop := w.grownBy W (some g)
section
variable {w W W' : World} {g : Nat}
theorem GrB.start (w : World) (g : Nat) : GrB w g w.drew := ⟨rfl, rfl, rfl, Nat.le_refl _, fun _ _ _ => rfl⟩
theorem GrB.more (h : GrB w g W) (hb : Below W.heap.size W W') : GrB w g W' :=
  ⟨hb.os.trans h.os, hb.tape.trans h.tape, hb.output.trans h.output, Nat.le_trans h.size hb.size, fun k hk hne => (hb.block k (Nat.lt_of_lt_of_le hk h.size)).trans (h.block k hk hne)⟩
theorem GrB.row (h : GrB w g W) (cs : Array Value) : GrB w g (W.setRow g cs) :=
  ⟨h.os, h.tape, h.output, by simpa using h.size, fun k hk hne => (setRow_other W g k cs (fun e => hne (by rw [e]))).trans (h.block k hk hne)⟩
theorem GrB.blk {k : Nat} {t : TypeId} {cs : Array Value} (h : GrB w g W) (hb : Blk w k t cs) (hne : k ≠ g) : Blk W k t cs := (h.block k hb.lt (fun e => hne (by injection e))).trans hb
end
end Go.Proofs.YtkommikehbbhbaaGreatDoor

/-
  A whole block read by value, guarded or not. No program.
-/
set_option linter.unusedVariables false
set_option linter.unusedSimpArgs false
namespace Go.Proofs.YtkommikehbbhbaaGreatDoor
open Go.RowKit
section
variable {P : Program} {w : World} {ops : Array Oper} {rest : List Oper} {op : Oper} {a : Act} {Q : Exit → Act → World → Prop}
theorem wpList_load_blk_w (hw : Region.wanted op (yielded ops a.tmps) = true) (ty : TypeId) (x : Operand) (ho : op.op = .load ty x) (g : Nat) (hx : a.eval x = .pointer (some ⟨g, 0, none⟩)) (t : TypeId) (cs : Array Value) (hb : Blk w g t cs)
    (d : TypeDesc) (hu : P.underlying ty = some d) (hd : TypeDesc.isRow d = true) (hi : (P.info? ty).map (·.size) = some cs.size)
    (h : wpList P ops Q rest (a.put op.dst (.agg cs)) w) : wpList P ops Q (op :: rest) a w :=
  wpList_step fun K hK => by
    rw [if_pos hw]
    unfold Oper.wp execOp
    simp only [ho, hx, Instr.loadAt, Instr.sureAddr, Sem.run_bind, Sem.run_pure, Result.andThen_ok, loadVar_blk hb hu hd hi]
    exact hK _ _ h
end
end Go.Proofs.YtkommikehbbhbaaGreatDoor
