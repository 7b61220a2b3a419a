/-
  Feeds: frames that were returned, as rows of a slice; what a push leaves, in the words of the plain laws.
-/
import Derived.Test.YtbjngeaoimaooaaFeedY
import Derived.Test.YtbjngeaoimaooaaFeedL
import Derived.Test.YtbjngeaoimaooaaRows0
set_option linter.unusedVariables false
set_option linter.unusedSimpArgs false
namespace Go.Proofs.Ytbjngeaoimaooaa
open Go.RowKit
def rowFr (x : Fr) : List Value := [Value.int .i64 (x.ver : Int), Value.int .i64 (x.kind : Int), Value.string (bstr x.pl)]
theorem rowsFr_flat (l : List Fr) : (l.map rowFr).flatten = cellsFr l := by simp only [cellsFr, List.flatMap]; rfl
theorem rowsFr_size (l : List Fr) : ∀ r ∈ l.map rowFr, r.length = 3 := by
  intro r hr
  obtain ⟨x, _, rfl⟩ := List.mem_map.1 hr
  rfl
theorem OwnF.elts {w : World} {base : Nat} {p : Option Addr} {c : Nat} {l : List Fr} (h : OwnF w base (.slice p l.length c) l) : Elts w w.heap.size 3 p (l.map rowFr) :=
  .of_own (c := c) (rowsFr_size l) (by rw [List.length_map, rowsFr_flat]; exact h)
theorem OwnF.asd {w w' : World} {g base : Nat} {v : Value} {l : List Fr} (h : OwnF w base v l) (ha : Asd w g w') (hg : v.ownBlock ≠ some g) : OwnF w' base v l :=
  World.ownsRow.kept (row := some g) h ha (.inr hg)
theorem OwnF.elts_asd {w w' : World} {g base : Nat} {p : Option Addr} {c : Nat} {l : List Fr} (h : OwnF w base (.slice p l.length c) l) (ha : Asd w g w') (hg : (Value.slice p l.length c).ownBlock ≠ some g) : Elts w' w'.heap.size 3 p (l.map rowFr) :=
  (h.asd ha hg).elts
theorem bstr_append (a b : List UInt8) : bstr a ++ bstr b = bstr (a ++ b) := by
  apply ByteArray.ext
  simp [bstr, ByteArray.data_append]
theorem encs_take_le (l : List Fr) (k : Nat) : (encs (l.take k)).length ≤ (encs l).length := by
  conv => rhs; rw [← List.take_append_drop k l, encs_append, List.length_append]
  omega
theorem encs_take (l : List Fr) (k : Nat) (x : Fr) (h : l[k]? = some x) : encs (l.take (k + 1)) = encs (l.take k) ++ wireF x.ver x.kind x.pl := by
  rw [List.take_add_one, h, Option.toList_some, encs_append, encs_cons, encs_nil, List.append_nil]
end Go.Proofs.Ytbjngeaoimaooaa
