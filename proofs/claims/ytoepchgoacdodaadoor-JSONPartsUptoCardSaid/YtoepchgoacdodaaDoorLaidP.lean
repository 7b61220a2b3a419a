/-
 What the rows of the laws of printing list of the library's variables; a world that holds it, for the witnesses.
-/
import Derived.Test.YtoepchgoacdodaaDoorJsonS
import Derived.Test.YtoepchgoacdodaaDoorCards
import Derived.Test.YtoepchgoacdodaaDoorTie
import Derived.Lib.LaidTab
set_option linter.unusedVariables false
set_option linter.unusedSimpArgs false
namespace Go.Proofs.YtoepchgoacdodaaDoor
open Go.RowKit Go.Shelf Go.Lib
theorem tabIs_of_reads {P : Program} {W : World} {name : String} {k : IntKind} {zs : List Int} {g : Nat} {t e : TypeId} {n : Nat}
    (hg : P.globalNamed name = some g) (hty : (P.globals[g]?).map (·.type) = some t) (ht : P.underlying t = some (.array n e)) (he : P.underlying e = some (.int k)) (hce : P.cellsOf e = 1) (hct : P.cellsOf t = n)
    (h : VarReads P W name (tabData k zs)) : Go.Lib.TabIs P W name k zs := by
  obtain ⟨g', t', cs, fuel, p, hg', ht', hvar, hd⟩ := h
  obtain rfl := Option.some.inj (hg.symm.trans hg')
  obtain rfl := Option.some.inj (hty.symm.trans ht')
  unfold Go.Lib.TabIs
  rw [hvar, ← cells_of_tab ht he hce hct hd]
theorem laid_pow : (Rows.laid_internal_strconv_uint64pow10 : DataW Unit) = tabData .u64 pow10Tab := by kernel_rfl
theorem libP_of_reads {W : World} (h1 : VarReads Tryd.prog W "unicode/utf8.first" Lib.firstData) (h2 : VarReads Tryd.prog W "unicode/utf8.acceptRanges" Lib.acceptData) (h3 : VarReads Tryd.prog W "internal/strconv.uint64pow10" (tabData .u64 pow10Tab)) : LibP W.heap.size W :=
  ⟨tabBelow_of_tabIs (tabIs_of_reads (g := 2) (t := 96) (e := 81) (n := 20) (by kernel_rfl) (by kernel_rfl) (by kernel_rfl) (by kernel_rfl) (by kernel_rfl) (by kernel_rfl) h3), fun X hX => (tabs_of_reads h1 h2).below hX⟩
def laidLP : List (String × DataW Unit) := [("math/bits.deBruijn32tab", Rows.laid_math_bits_deBruijn32tab), ("math/bits.deBruijn64tab", Rows.laid_math_bits_deBruijn64tab), ("internal/strconv.uint64pow10", Rows.laid_internal_strconv_uint64pow10), ("unicode/utf8.acceptRanges", Rows.laid_unicode_utf8_acceptRanges), ("unicode/utf8.first", Rows.laid_unicode_utf8_first)]
theorem libP_of_laid {W : World} (hL : laidMetH Tryd.prog laidLP W) : LibP W.heap.size W :=
  libP_of_reads (by rw [← laid_first]; exact Lib.laidMet.reads hL (.tail _ (.tail _ (.tail _ (.tail _ (.head _)))))) (by rw [← laid_accept]; exact Lib.laidMet.reads hL (.tail _ (.tail _ (.tail _ (.head _))))) (by rw [← laid_pow]; exact Lib.laidMet.reads hL (.tail _ (.tail _ (.head _))))
def b32L : List Int := [0, 1, 28, 2, 29, 14, 24, 3, 30, 22, 20, 15, 25, 17, 4, 8, 31, 27, 13, 23, 21, 19, 16, 7, 26, 12, 18, 6, 11, 5, 10, 9]
def b64L : List Int := [0, 1, 56, 2, 57, 49, 28, 3, 61, 58, 42, 50, 38, 29, 17, 4, 62, 47, 59, 36, 45, 43, 51, 22, 53, 39, 33, 30, 24, 18, 12, 5, 63, 55, 48, 27, 60, 41, 37, 16, 46, 35, 44, 21, 52, 32, 23, 11, 54, 26, 40, 15, 34, 20, 31, 10, 25, 14, 19, 9, 13, 8, 7, 6]
def putRowG (h : Array Obj) (g : Nat) (cs : Array Value) : Array Obj := h.modify g fun
  | .cells _ t frozen => .cells cs t frozen
  | o => o
noncomputable def laidHeapP (w0 : World) : Array Obj :=
  let h1 := putRowG w0.heap 0 (Lib.firstTab.map fun z => Value.int .u8 z).toArray
  let h2 := putRowG h1 1 ((List.range 16).flatMap fun i => [Value.int .u8 (Lib.accLo i), Value.int .u8 (Lib.accHi i)]).toArray
  let h3 := putRowG h2 2 (pow10Tab.map fun z => Value.int .u64 z).toArray
  let h4 := putRowG h3 3 (b32L.map fun z => Value.int .u8 z).toArray
  putRowG h4 4 (b64L.map fun z => Value.int .u8 z).toArray
noncomputable def laidWorldP (os : Os) : World :=
  let w0 := World.holding Tryd.prog os ⟨#[], #[], []⟩
  { w0 with heap := laidHeapP w0 }
theorem laid_metP (os : Os) (args : Array Value) : laidMet Tryd.prog laidLP ((laidWorldP os).forCall (fun _ _ => 0) ⟨#[], args, []⟩).memory :=
  (LaidIn.of_run (l := laidLP) [3, 4, 2, 1, 0] 8 (by kernel_rfl) (by kernel_rfl) (by kernel_rfl) (by kernel_rfl)).met
end Go.Proofs.YtoepchgoacdodaaDoor
