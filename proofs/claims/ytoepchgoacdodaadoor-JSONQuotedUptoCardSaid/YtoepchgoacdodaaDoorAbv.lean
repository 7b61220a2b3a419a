/-
  Regions that draw their order, whose operations read old memory, compute, or call what makes new memory: every order gives the same values, and some world above. No program.
-/
import Derived.Test.YtoepchgoacdodaaDoorRows0
set_option linter.unusedVariables false
set_option linter.unusedSimpArgs false
namespace Go.Proofs.YtoepchgoacdodaaDoor
open Go.RowKit
/-- w' has all that W has, and perhaps more. -/
def Abv (W w' : World) : Prop := Below W.heap.size W w'
theorem Abv.refl (W : World) : Abv W W := Below.refl _ _
theorem Abv.step {W a b : World} (h : Abv W a) (hb : Below a.heap.size a b) : Abv W b := bthen h hb
section
variable {P : Program} {ops : Array Oper} {C : World → Prop} {Q : Act → Prop} {o : Oper} {rest : List Oper} {a : Act} {v : Value}
theorem wpQuiet_do (hw : Region.wanted o (yielded ops a.tmps) = true) (h : ∀ w, C w → o.quietAt P a C w v) (hn : wpQuiet P ops C Q rest (a.put o.dst v)) : wpQuiet P ops C Q (o :: rest) a := by
  unfold wpQuiet
  rw [if_pos hw]
  exact ⟨v, h, hn⟩
theorem wpQuiet_not (hw : Region.wanted o (yielded ops a.tmps) = false) (hn : wpQuiet P ops C Q rest (a.put o.dst undef)) : wpQuiet P ops C Q (o :: rest) a := by
  unfold wpQuiet
  rw [if_neg (by rw [hw]; simp)]
  exact hn
theorem wpQuiet_load_g (hw : Region.wanted o (yielded ops a.tmps) = true) (ty : TypeId) (x : Operand) (ho : o.op = .load ty x)
    (ad : Addr) (hx : a.eval x = .pointer (some ad)) (cs : List Value) (d : TypeDesc) (hc : ∀ w, C w → At w ad cs)
    (hu : P.underlying ty = some d) (hd : d.isRow = true) (hi : (P.info? ty).map (·.size) = some cs.length)
    (h : wpQuiet P ops C Q rest (a.put o.dst (.agg cs.toArray))) : wpQuiet P ops C Q (o :: rest) a := by
  refine wpQuiet_do (v := .agg cs.toArray) hw (fun w hC => ?_) h
  unfold Oper.quietAt execOp
  simp only [ho, hx, Instr.loadAt, Instr.sureAddr, Sem.run_bind, Sem.run_pure, Result.andThen_ok, run_loadVar_at w ad ty cs d (hc w hC) hu hd hi]
  exact ⟨rfl, rfl⟩
theorem wp_region_abv {id : Nat} {Q : Exit → Act → World → Prop} {a : Act} {w : World} {l : List Oper} (hm : P.follows .mixedOrders = true) (hB : Region.lexB .any l.toArray = true)
    (h : wpQuiet P l.toArray (Abv w) (fun a' => ∀ w', Abv w w' → Q .normal a' w') l a) : (Code.region id l.toArray true).wp P Q a w :=
  wp_region_quiet (C := Abv w) hm hB (Below.refl _ w).drew (by simpa using h)
end
end Go.Proofs.YtoepchgoacdodaaDoor
