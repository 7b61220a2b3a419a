/-
  Feeds: a push into a feed that has read L.
-/
import Derived.Test.YtbjngeaoimaooaaFeedA
import Derived.Test.YtbjngeaoimaooaaCutW
set_option linter.unusedVariables false
set_option linter.unusedSimpArgs false
namespace Go.Proofs.Ytbjngeaoimaooaa
open Go.RowKit
def errF (L : List UInt8) : Nat := if (feedF L).e = 3 then 0 else (feedF L).e
def stF (L : List UInt8) : Array Value := #[.string (bstr (if (feedF L).e = 3 then L.drop (feedF L).n else [])), .int .i64 ((feedF L).n : Int), .int .i64 (errF L : Int)]
def NextPost (w : World) (g : Nat) (L : List UInt8) (s : ByteArray) (e : Ending) (w' : World) : Prop :=
  ∃ a c, ∃ outs : List Fr, e = .returned (.tuple #[.slice a outs.length c, .int .i64 (errF (L ++ s.data.toList) : Int)]) ∧ Elts w' w'.heap.size 3 a (outs.map rowFr) ∧ (∀ ad, a = some ad → w.heap.size ≤ ad.block) ∧
    (feedF L).out ++ outs = (feedF (L ++ s.data.toList)).out ∧ Blk w' g 43 (stF (L ++ s.data.toList)) ∧ Asd w g w'
theorem push_next (g : Nat) (L : List UInt8) (s : ByteArray) (w : World) (hb : Blk w g 43 (stF L)) (hs : L.length + s.size ≤ 1099511627776) :
    Calls Try.prog 9 #[.pointer (some ⟨g, 0, none⟩), .string s] w fun e w' => NextPost w g L s e w' := by
  have hm := feedF_more L s.data.toList
  have hn := feedF_n L
  have he0 := feedF_e L
  unfold stF errF at hb
  by_cases he : (feedF L).e = 3
  · rw [if_pos he, if_pos he] at hb
    rw [if_pos he] at hm
    have h := push_small g (feedF L).n (bstr (L.drop (feedF L).n)) s w hb (by rw [bstr_size, List.length_drop]; omega)
    have hl : (bstr (L.drop (feedF L).n) ++ s).data.toList = L.drop (feedF L).n ++ s.data.toList := by rw [ByteArray.data_append, Array.toList_append, bstr_list]
    rw [hl] at h
    have hee := congrArg FeedR.e hm
    have hnn := congrArg FeedR.n hm
    simp only [] at hee hnn
    by_cases h3 : (feedF (L.drop (feedF L).n ++ s.data.toList)).e = 3
    · refine h.mono fun e w' hp => ?_
      obtain ⟨a, c, rfl, ho, hbl, ha⟩ := hp.ok h3
      have h3' : (feedF (L ++ s.data.toList)).e = 3 := by rw [hee]; exact h3
      refine ⟨a, c, _, ?_, ho.elts, own_ge ho, by rw [hm], ?_, ha⟩
      · unfold errF; rw [if_pos h3']; rfl
      · unfold stF errF
        rw [if_pos h3', if_pos h3', hnn]
        have : (L ++ s.data.toList).drop ((feedF L).n + (feedF (L.drop (feedF L).n ++ s.data.toList)).n) = (L.drop (feedF L).n ++ s.data.toList).drop (feedF (L.drop (feedF L).n ++ s.data.toList)).n := by
          rw [← List.drop_drop, List.drop_append_of_le_length hn]
        rw [this]
        exact hbl
    · refine h.mono fun e w' hp => ?_
      obtain ⟨a, c, rfl, ho, hbl, ha⟩ := hp.bad h3
      have h3' : (feedF (L ++ s.data.toList)).e ≠ 3 := by rw [hee]; exact h3
      refine ⟨a, c, _, ?_, ho.elts, own_ge ho, by rw [hm], ?_, ha⟩
      · unfold errF; rw [if_neg h3', hee]
      · unfold stF errF
        rw [if_neg h3', if_neg h3', hnn, hee]
        exact hbl
  · rw [if_neg he, if_neg he] at hb
    rw [if_neg he] at hm
    have h := push_stuck g (feedF L).n _ s ((feedF L).e : Int) (by omega) w hb
    refine h.mono fun e w' hp => ?_
    obtain ⟨rfl, hbl⟩ := hp
    have h3' : (feedF (L ++ s.data.toList)).e ≠ 3 := by rw [hm]; exact he
    refine ⟨none, 0, [], ?_, Elts.nil_, by simp, by rw [hm, List.append_nil], ?_, (Asd.refl w g).below hbl (Nat.le_refl _)⟩
    · unfold errF; rw [if_neg h3', hm]; rfl
    · unfold stF errF
      rw [if_neg h3', if_neg h3', hm]
      exact hb.below hbl hb.lt
theorem Asd.trans {a b c : World} {g : Nat} (h1 : Asd a g b) (h2 : Asd b g c) : Asd a g c :=
  ⟨h2.os.trans h1.os, h2.tape.trans h1.tape, h2.output.trans h1.output, Nat.le_trans h1.size h2.size, fun k hk hne => (h2.block k (Nat.lt_of_lt_of_le hk h1.size) hne).trans (h1.block k hk hne)⟩
theorem Elts.asd {w w' : World} {B size g : Nat} {p : Option Addr} {rows : List (List Value)} (h : Elts w B size p rows) (hB : B ≤ w.heap.size) (ha : Asd w g w') (hg : ∀ a, p = some a → a.block ≠ g) : Elts w' B size p rows :=
  ⟨h.1, fun hn => by
    obtain ⟨a, e, hb, hc⟩ := h.2 hn
    refine ⟨a, e, hb, fun k r hr j v hv => ?_⟩
    refine (World.cell?_of_block ?_).trans (hc k r hr j v hv)
    rw [block_of_add, block_of_add]
    exact ha.block a.block (by omega) (by intro h0; injection h0 with h0; exact hg a e h0)⟩
theorem Blk.asd {w w' : World} {g f : Nat} {t : TypeId} {cs : Array Value} (h : Blk w f t cs) (ha : Asd w g w') (hne : f ≠ g) : Blk w' f t cs :=
  (ha.block f h.lt (by intro h0; injection h0 with h0; exact hne h0)).trans h
section
variable {w : World} {ops : Array Oper} {rest : List Oper} {o : Oper} {a : Act} {Q : Exit → Act → World → Prop}
/-- Frames appended to frames of the call's own. -/
theorem wpList_append_frs (hgd : o.guard = none) (s x : Operand)
    (ho : o.op = .call { callee := .builtin .append, args := #[s, x], argTypes := #[26, 26] })
    (base : Nat) (v : Value) (acc : List Fr) (hs : a.eval s = v) (hown : OwnF w base v acc) (p : Option Addr) (c B : Nat) (outs : List Fr) (hx : a.eval x = .slice p outs.length c) (hr : Elts w B 3 p (outs.map rowFr))
    (hlen : acc.length + outs.length ≤ 4398046511104) (hbase : base ≤ w.heap.size)
    (h : ∀ v' w', OwnF w' base v' (acc ++ outs) → Below base w w' → wpList Try.prog ops Q rest (a.put o.dst v') w') : wpList Try.prog ops Q (o :: rest) a w := by
  obtain ⟨i0, hi, hz0, hz1, hz2⟩ := info_parts frame_info
  have hrd := hr.reads
  rw [List.length_map, rowsFr_flat] at hrd
  refine wpList_append_any w hgd s x 26 ho base 34 i0 _ 3 32 Try.underlying26 hi hz0 hz1 hz2 rfl (by decide) v acc.length (cellsFr acc) hs hown B p outs.length c (cellsFr outs) hx hrd ?_ ?_ ?_ hbase ?_
  · intro u hu
    simp only [cellsFr, List.mem_flatMap] at hu
    obtain ⟨y, _, hy⟩ := hu
    simp at hy
    rcases hy with rfl | rfl | rfl <;> rfl
  · simp only [maxLen]; omega
  · omega
  · intro v' w' hown' hg _
    refine h v' w' ?_ ?_
    · unfold OwnF
      rw [cellsFr_append, List.length_append]
      exact hown'
    · exact (Below.refl base w).grown hg hbase (fun k hk => (World.ownsRow.lt hown k hk).1)
end
theorem stF_nil : stF [] = #[.string ByteArray.empty, .int .i64 0, .int .i64 0] := by unfold stF errF; rw [feedF_nil0]; rfl
theorem errF_nil : errF [] = 0 := by unfold errF; rw [feedF_nil0]; rfl
def leftF (L : List UInt8) : Nat := (bstr (if (feedF L).e = 3 then L.drop (feedF L).n else [])).size
theorem at_st (g : Nat) (L : List UInt8) (w : World) (hb : Blk w g 43 (stF L)) :
    Calls Try.prog 12 #[.pointer (some ⟨g, 0, none⟩)] w fun e w' => e = .returned (.int .i64 ((feedF L).n : Int)) ∧ w = w' := at_any g _ _ _ w hb
theorem left_st (g : Nat) (L : List UInt8) (w : World) (hb : Blk w g 43 (stF L)) :
    Calls Try.prog 13 #[.pointer (some ⟨g, 0, none⟩)] w fun e w' => e = .returned (.int .i64 (leftF L : Int)) ∧ w = w' := left_any g _ _ _ w hb
def flatS (ps : List ByteArray) : List UInt8 := (ps.map (·.data.toList)).flatten
theorem flatS_take (ps : List ByteArray) (k : Nat) (x : ByteArray) (h : ps[k]? = some x) : flatS (ps.take (k + 1)) = flatS (ps.take k) ++ x.data.toList := by
  unfold flatS
  rw [List.take_add_one, h, Option.toList_some, List.map_append, List.flatten_append]
  simp
theorem flatS_len (ps : List ByteArray) (k : Nat) : (flatS (ps.take k)).length ≤ (flatS ps).length := by
  have : flatS ps = flatS (ps.take k) ++ flatS (ps.drop k) := by
    unfold flatS
    rw [← List.flatten_append, ← List.map_append, List.take_append_drop]
  rw [this, List.length_append]; omega
end Go.Proofs.Ytbjngeaoimaooaa
