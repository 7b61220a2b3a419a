/-
  Feeds: lists of frames that came in; one frame appended to frames of the call's own.
-/
import Derived.Test.YtbjngeaoimaooaaEqFr
import Derived.Test.YtbjngeaoimaooaaOpen0
set_option linter.unusedVariables false
set_option linter.unusedSimpArgs false
namespace Go.Proofs.Ytbjngeaoimaooaa
open Go.RowKit Go.ChangeShapes Go.WideShapes Go.Deep
/-- A frame as it may come in. -/
structure FrI where
  v : Int
  k : Int
  pl : ByteArray
def rowFI (x : FrI) : List Value := [.int .i64 x.v, .int .i64 x.k, .string x.pl]
def datFI {H : Type} (x : FrI) : DataW H := .agg [.lit (.int .i64 x.v), .lit (.int .i64 x.k), .lit (.string x.pl.data.toList)]
def okFI (x : FrI) : Prop := (-9223372036854775808 ≤ x.v ∧ x.v ≤ 9223372036854775807) ∧ (-9223372036854775808 ≤ x.k ∧ x.k ≤ 9223372036854775807)
theorem elem_FI {H : Type} {enc : TypeId × Value → H} {w : World} {base : Nat} {spare : Nat → Bool} {held : Bool} (n : Nat) (cs : List Value) (d : DataW H) (pl : List MemPlace) (hl : cs.length = 3)
    (h : DataW.trod enc Try.prog w base spare held n 34 cs = some (d, pl)) : ∃ x : FrI, cs = rowFI x ∧ d = datFI x ∧ okFI x := by
  obtain ⟨ys, n', hd, hyl, hf⟩ := struct_fields Try.underlying34 (by kernel_rfl) hl h
  obtain ⟨v0, y0, h0, g0, t0⟩ := hf 0 _ rfl
  obtain ⟨v1, y1, h1, g1, t1⟩ := hf 1 _ rfl
  obtain ⟨v2, y2, h2, g2, t2⟩ := hf 2 _ rfl
  obtain ⟨a, e0, rfl, wa⟩ := DataW.trod_int Try.underlying3 t0
  obtain ⟨b, e1, rfl, wb⟩ := DataW.trod_int Try.underlying3 t1
  obtain ⟨s, e2, rfl, ws⟩ := DataW.trod_string Try.underlying9 t2
  simp at e0 e1 e2; subst e0 e1 e2
  match cs, hl, h0, h1, h2 with
  | [c0, c1, c2], _, h0, h1, h2 =>
    simp at h0 h1 h2; subst h0 h1 h2
    match ys, hyl, g0, g1, g2 with
    | [z0, z1, z2], _, g0, g1, g2 =>
      simp at g0 g1 g2; subst g0 g1 g2
      have ba := bounds_i64 wa
      have bb := bounds_i64 wb
      exact ⟨⟨a, b, s⟩, rfl, by rw [hd]; rfl, ⟨ba.1, ba.2⟩, bb.1, bb.2⟩
def frOf (x : FrI) : Option Fr := if goodF x.v x.k ∧ x.pl.size ≤ 6000 then some ⟨x.v.toNat, x.k.toNat, x.pl.data.toList⟩ else none
def goods (l : List FrI) : List Fr := l.filterMap frOf
theorem goods_good (l : List FrI) : ∀ x ∈ goods l, GoodFr x := by
  intro x hx
  obtain ⟨y, _, hy⟩ := List.mem_filterMap.1 hx
  unfold frOf at hy
  split at hy
  · rename_i h
    injection hy with hy
    subst hy
    obtain ⟨⟨h1, h2, h3, h4⟩, h5⟩ := h
    exact ⟨⟨by show 1 ≤ y.v.toNat; omega, by show y.v.toNat ≤ 3; omega⟩, ⟨by show 1 ≤ y.k.toNat; omega, by show y.k.toNat ≤ 4; omega⟩, by simpa using h5⟩
  · cases hy
theorem goods_len (l : List FrI) : (goods l).length ≤ l.length := List.length_filterMap_le _ _
theorem goods_take (l : List FrI) (k : Nat) (x : FrI) (h : l[k]? = some x) : goods (l.take (k + 1)) = goods (l.take k) ++ (frOf x).toList := by
  rw [List.take_add_one, h, Option.toList_some]
  simp only [goods, List.filterMap_append]
  cases hx : frOf x <;> simp [List.filterMap, hx]
theorem encs_len (l : List Fr) (h : ∀ x ∈ l, GoodFr x) : (encs l).length ≤ l.length * 6018 := by
  induction l with
  | nil => simp [encs]
  | cons x r ih =>
    have hx := h x (by simp)
    have := ih fun y hy => h y (by simp [hy])
    have h10 := putN_len10 x.pl.length (by have := hx.2.2; omega)
    have := hx.2.2
    rw [encs_cons, List.length_append, wireF_length, List.length_cons]
    omega
section
variable {w : World} {ops : Array Oper} {rest : List Oper} {o : Oper} {a : Act} {Q : Exit → Act → World → Prop}
theorem wpList_append_fr (hgd : o.guard = none) (s x : Operand)
    (ho : o.op = .call { callee := .builtin .append, args := #[s, x], argTypes := #[26, 26] })
    (base : Nat) (v : Value) (acc : List Fr) (hs : a.eval s = v) (hown : OwnF w base v acc) (g : Nat) (fr : Fr) (hx : a.eval x = .slice (some ⟨g, 0, none⟩) 1 1)
    (hb : Blk w g 34 #[Value.int .i64 (fr.ver : Int), Value.int .i64 (fr.kind : Int), Value.string (bstr fr.pl)]) (hlen : acc.length + 1 ≤ 4398046511104) (hbase : base ≤ w.heap.size)
    (h : ∀ v' w', OwnF w' base v' (acc ++ [fr]) → Below base w w' → wpList Try.prog ops Q rest (a.put o.dst v') w') : wpList Try.prog ops Q (o :: rest) a w := by
  obtain ⟨i0, hi, hz0, hz1, hz2⟩ := info_parts frame_info
  refine wpList_append_own w hgd s x 26 ho base 34 i0 _ 3 32 Try.underlying26 hi hz0 hz1 hz2 rfl (by decide) v acc.length (cellsFr acc) hs hown ⟨g, 0, none⟩ 1 1 (rowFr fr) hx rfl ?_ ?_ ?_ ?_ hbase ?_
  · exact World.news_of_block hb
  · simp [rowFr, Value.oneCell']
  · simp only [maxLen]; omega
  · omega
  · intro v' w' hown' hg _
    refine h v' w' ?_ ?_
    · unfold OwnF
      rw [cellsFr_append, List.length_append]
      exact hown'
    · exact (Below.refl base w).grown hg hbase (fun k hk => (World.ownsRow.lt hown k hk).1)
end
theorem push_all (fs : List Fr) (hg : ∀ x ∈ fs, GoodFr x) (hl : fs.length ≤ 4398046511104) (w : World) (g : Nat) (hb : Blk w g 43 #[.string ByteArray.empty, .int .i64 0, .int .i64 0]) :
    Calls Try.prog 9 #[.pointer (some ⟨g, 0, none⟩), .string (bstr (encs fs))] w fun e w' => PushPost w g 0 (encs fs) ⟨fs, (encs fs).length, 3⟩ e w' := by
  have hle := encs_len fs hg
  have e1 : ByteArray.empty ++ bstr (encs fs) = bstr (encs fs) := by simp
  have hf := feedF_all fs hg
  have h := push_any g 0 ByteArray.empty (bstr (encs fs)) w hb (by have h0 : ByteArray.empty.size = 0 := rfl
                                                                   rw [bstr_size]; omega) (by rw [e1, bstr_list, hf]; exact hl)
  rw [e1, bstr_list, hf] at h
  exact h
theorem frames_sized {H : Type} {ts : List TypeId} {ds : List (DataW H)} (hsz : (DataW.weightsEach Try.prog ts ds).all (· ≤ reachBytes) = true) {j : Nat} (ht : ts[j]? = some 26) {l : List FrI} {p : Option Addr} {c : Nat} {d : DataW H}
    (hd : (l = [] ∧ p = none ∧ c = 0 ∧ d = .nil) ∨ ∃ rest : List FrI, d = .slice (l.map datFI) (rest.map datFI)) (hdj : ds[j]? = some d) : l.length ≤ 4398046511103 ∧ ∀ x ∈ l, x.pl.size ≤ 140737488351232 := by
  rcases hd with ⟨rfl, _⟩ | ⟨rest, rfl⟩
  · exact ⟨by simp, by simp⟩
  · have hb : Try.prog.bytesOf 34 = 32 := by kernel_rfl
    have hm : ∀ n ∈ DataW.weights Try.prog 26 (.slice (l.map datFI) (rest.map datFI) : DataW H), n ≤ reachBytes := fun n hn =>
      of_decide_eq_true (List.all_eq_true.1 hsz _ (DataW.weights_mem_each (P := Try.prog) ht hdj n hn))
    simp only [DataW.weights, Try.underlying26, hb] at hm
    have hr : reachBytes = 140737488351232 := rfl
    refine ⟨?_, fun x hx => ?_⟩
    · have := hm _ (by simp; left; rfl)
      rw [hr] at this
      omega
    · have hx2 : (datFI x : DataW H) ∈ l.map datFI := List.mem_map_of_mem hx
      have := hm x.pl.data.toList.length (List.mem_cons_of_mem _ (List.mem_append_left _ (weights_all hx2 _ (by simp [datFI, DataW.weights, Try.underlying34, DataW.weightsEach]))))
      rw [hr] at this
      simpa using this
end Go.Proofs.Ytbjngeaoimaooaa
