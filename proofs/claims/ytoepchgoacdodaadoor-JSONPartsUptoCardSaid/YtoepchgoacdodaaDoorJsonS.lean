/-
 strconv.AppendInt and strconv.Atoi at this translation; what the rows list of the library's variables, as it is carried along a walk.
-/
import Derived.Test.YtoepchgoacdodaaDoorShelfJ
import Derived.Test.YtoepchgoacdodaaDoorUtfW
import Derived.Test.YtoepchgoacdodaaDoorJsonP
import Derived.Test.YtoepchgoacdodaaDoorBufL
import Derived.Shelf.Strconv.AppendIntPublic10
import Derived.Shelf.Strconv.ErrVarAll
import Derived.Shelf.Strconv.ToError
import Derived.Lib.ItoaLen
set_option linter.unusedVariables false
set_option linter.unusedSimpArgs false
namespace Go.Proofs.YtoepchgoacdodaaDoor
open Go.RowKit
theorem u8J2 : (Tryd.prog.info? 5).map (fun i => (i.zero, i.size, i.bytes)) = some (some (.int .u8 0), 1, 1) := by kernel_rfl
/-- What is read of the library's variables while a state is printed. -/
structure LibP (B : Nat) (w : World) : Prop where
  pow : Lib.TabBelow Tryd.prog B w "internal/strconv.uint64pow10" .u64 Lib.pow10Tab
  tabs : ∀ W, Below B w W → Tabs W
theorem LibP.below {B : Nat} {w W : World} (h : LibP B w) (hb : Below B w W) : LibP B W := ⟨h.pow.on hb, fun X hX => h.tabs X (hb.trans hX)⟩
theorem LibP.more {B B' : Nat} {w : World} (h : LibP B w) (hB : B ≤ B') : LibP B' w := ⟨fun W hW => h.pow W (hW.mono hB), fun W hW => h.tabs W (hW.mono hB)⟩
theorem LibP.here {B : Nat} {w : World} (h : LibP B w) : Tabs w := h.tabs w (Below.refl _ _)
theorem appInt_any (base : Nat) (i : Int) (h0 : -9223372036854775808 ≤ i) (h1 : i ≤ 9223372036854775807) (v : Value) (l : List UInt8) (w : World) (hbuf : Buf 5 w base v l) (hbase : base ≤ w.heap.size) (hl : l.length + 21 ≤ 140737488355328) (hP : LibP base w) :
    Calls Tryd.prog 12 #[v, .int .i64 i, .int .i64 10] w fun e w' => ∃ v', e = .returned v' ∧ Buf 5 w' base v' (l ++ Lib.itoa i) ∧ Gr 5 base w w' := by
  refine (Any.strconv_AppendInt_10 Tryd.laysAppInt base l.length i h0 h1 v (bytesV l) w hbuf hbase hl hP.pow).mono ?_
  rintro e w' ⟨v', rfl, ho, hb, hk⟩
  refine ⟨v', rfl, ?_, hb, hk⟩
  unfold Buf
  rw [bytesV_append, List.length_append]
  exact ho
end Go.Proofs.YtoepchgoacdodaaDoor
