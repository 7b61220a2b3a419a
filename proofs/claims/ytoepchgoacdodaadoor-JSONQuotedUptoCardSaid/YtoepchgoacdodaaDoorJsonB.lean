/-
 Contracts of package json: rows printed.
-/
import Derived.Test.YtoepchgoacdodaaDoorJsonA
set_option linter.unusedVariables false
set_option linter.unusedSimpArgs false
namespace Go.Proofs.YtoepchgoacdodaaDoor
open Go.RowKit
def smJ (x : JobD) : Prop := x.name.size ≤ 16 ∧ x.tag.size ≤ 16 ∧ (-9223372036854775808 ≤ x.prio ∧ x.prio ≤ 9223372036854775807) ∧ (-9223372036854775808 ≤ x.need ∧ x.need ≤ 9223372036854775807) ∧ (-9223372036854775808 ≤ x.tries ∧ x.tries ≤ 9223372036854775807)
def smN (x : NodeD) : Prop := x.name.size ≤ 16 ∧ x.zone.size ≤ 16 ∧ (-9223372036854775808 ≤ x.room ∧ x.room ≤ 9223372036854775807)
def smL (x : LeaseD) : Prop := x.job.size ≤ 16 ∧ x.node.size ≤ 16 ∧ (-9223372036854775808 ≤ x.till ∧ x.till ≤ 9223372036854775807)
theorem txt_small {n s : ByteArray} (p : Addr) (hn : n.size ≤ 16) (hs : s.size ≤ 16) : smallF ⟨n, .txt s, p⟩ := ⟨hn, trivial, fun t h => by injection h with h; subst h; exact hs⟩
theorem num_small {n : ByteArray} {k : Int} (p : Addr) (hn : n.size ≤ 16) (hk : -9223372036854775808 ≤ k ∧ k ≤ 9223372036854775807) : smallF ⟨n, .num k, p⟩ := ⟨hn, hk, fun t h => by cases h⟩
theorem smallJ {x : JobD} (h : smJ x) (a : Addr) : ∀ f ∈ fldsJ a x, smallF f := by
  intro f hf; simp only [fldsJ, List.mem_cons, List.not_mem_nil, or_false] at hf
  rcases hf with rfl | rfl | rfl | rfl | rfl
  · exact txt_small _ (by decide) h.1
  · exact num_small _ (by decide) h.2.2.1
  · exact num_small _ (by decide) h.2.2.2.1
  · exact num_small _ (by decide) h.2.2.2.2
  · exact txt_small _ (by decide) h.2.1
theorem smallN {x : NodeD} (h : smN x) (a : Addr) : ∀ f ∈ fldsN a x, smallF f := by
  intro f hf; simp only [fldsN, List.mem_cons, List.not_mem_nil, or_false] at hf
  rcases hf with rfl | rfl | rfl
  · exact txt_small _ (by decide) h.1
  · exact num_small _ (by decide) h.2.2
  · exact txt_small _ (by decide) h.2.1
theorem smallL {x : LeaseD} (h : smL x) (a : Addr) : ∀ f ∈ fldsL a x, smallF f := by
  intro f hf; simp only [fldsL, List.mem_cons, List.not_mem_nil, or_false] at hf
  rcases hf with rfl | rfl | rfl
  · exact txt_small _ (by decide) h.1
  · exact txt_small _ (by decide) h.2.1
  · exact num_small _ (by decide) h.2.2
theorem add_zero_ (a : Addr) : a.add 0 = a := by unfold Addr.add; rw [if_pos rfl]
theorem valsJ {w : World} {a : Addr} {x : JobD} {B : Nat} (h : At w a (rowJ x)) (hb : a.block < B) : ∀ f ∈ fldsJ a x, w.cell? f.p = some f.v.val ∧ f.p.block < B := by
  intro f hf; simp only [fldsJ, List.mem_cons, List.not_mem_nil, or_false] at hf
  rcases hf with rfl | rfl | rfl | rfl | rfl
  · have := h 0 _ rfl; rw [add_zero_] at this; exact ⟨this, hb⟩
  · exact ⟨h 1 _ rfl, by rw [block_of_add]; exact hb⟩
  · exact ⟨h 2 _ rfl, by rw [block_of_add]; exact hb⟩
  · exact ⟨h 3 _ rfl, by rw [block_of_add]; exact hb⟩
  · exact ⟨h 4 _ rfl, by rw [block_of_add]; exact hb⟩
theorem valsN {w : World} {a : Addr} {x : NodeD} {B : Nat} (h : At w a (rowN x)) (hb : a.block < B) : ∀ f ∈ fldsN a x, w.cell? f.p = some f.v.val ∧ f.p.block < B := by
  intro f hf; simp only [fldsN, List.mem_cons, List.not_mem_nil, or_false] at hf
  rcases hf with rfl | rfl | rfl
  · have := h 0 _ rfl; rw [add_zero_] at this; exact ⟨this, hb⟩
  · exact ⟨h 1 _ rfl, by rw [block_of_add]; exact hb⟩
  · exact ⟨h 2 _ rfl, by rw [block_of_add]; exact hb⟩
theorem valsL {w : World} {a : Addr} {x : LeaseD} {B : Nat} (h : At w a (rowL x)) (hb : a.block < B) : ∀ f ∈ fldsL a x, w.cell? f.p = some f.v.val ∧ f.p.block < B := by
  intro f hf; simp only [fldsL, List.mem_cons, List.not_mem_nil, or_false] at hf
  rcases hf with rfl | rfl | rfl
  · have := h 0 _ rfl; rw [add_zero_] at this; exact ⟨this, hb⟩
  · exact ⟨h 1 _ rfl, by rw [block_of_add]; exact hb⟩
  · exact ⟨h 2 _ rfl, by rw [block_of_add]; exact hb⟩
theorem rowsJ_snoc (l : List (List UInt8)) (x : List UInt8) : rowsJ false (l ++ [x]) = rowsJ false l ++ ((if 0 < l.length then [44] else []) ++ x) := by
  have h : ∀ (c : Bool) (l : List (List UInt8)), rowsJ c (l ++ [x]) = rowsJ c l ++ ((if c = true ∨ 0 < l.length then [44] else []) ++ x) := by
    intro c l
    induction l generalizing c with
    | nil => cases c <;> simp [rowsJ]
    | cons y l ih => rw [List.cons_append]; simp only [rowsJ]; rw [ih true]; simp
  have := h false l
  simpa using this
theorem objB_len (fs : List FldP) (hn : fs.length ≤ 5) (h : ∀ f ∈ fs, smallF f) : (objB (fs.map fldPair)).length ≤ 1107 := by
  have := fieldsB_len fs h
  unfold objB; simp only [List.length_cons, List.length_append, List.length_nil]; omega
theorem Buf.below {U : TypeId} {w w' : World} {base : Nat} {v : Value} {l : List UInt8} (h : Buf U w base v l) (hb : Below w.heap.size w w') : Buf U w' base v l :=
  World.ownsRow.kept (row := none) h ⟨hb.os, hb.tape, hb.output, hb.size, fun k hk _ => hb.block k hk⟩ (Classical.em _)
theorem rowsJ_len2 (ls : List (List UInt8)) (h : ∀ x ∈ ls, x.length ≤ 1107) : (rowsJ false ls).length ≤ 1108 * ls.length := by
  have g : ∀ c, (rowsJ c ls).length ≤ 1108 * ls.length := by
    induction ls with
    | nil => intro c; simp [rowsJ]
    | cons x l ih =>
      intro c
      have h1 := ih (fun y hy => h y (by simp [hy])) true
      have h2 := h x (by simp)
      have h3 : (if c = true then [(44 : UInt8)] else []).length ≤ 1 := by cases c <;> simp
      show ((if c = true then [44] else []) ++ (x ++ rowsJ true l)).length ≤ _
      simp only [List.length_append, List.length_cons] at *
      omega
  exact g false
set_option maxHeartbeats 8000000 in
set_option maxRecDepth 100000 in
theorem arrayJ_any (base : Nat) (v : Value) (l : List UInt8) (name : ByteArray) (rows : List JobD) (p : Option Addr) (c : Nat) (w : World) (hbuf : Buf 5 w base v l) (hbase : base ≤ w.heap.size) (hel : Elts w base 5 p (rows.map rowJ))
    (hsm : ∀ x ∈ rows, smJ x) (hn : rows.length ≤ 40) (hnm : name.size ≤ 16) (hl : l.length + 60000 ≤ 140737488355328) (hP : LibP base w) :
    Calls Tryd.prog 13 #[v, .string name, .slice p rows.length c, .func (.func 14) #[] #[]] w fun e w' => ∃ v', e = .returned v' ∧ Buf 5 w' base v' (l ++ arrB name ((rows.map fvJ).map objB)) ∧ Gr 5 base w w' := by
  have hql := quoteL_len name.data.toList
  rw [bl_len] at hql
  have hen : ∀ args W, (callFunc 14 args).run Tryd.prog W = .ok (.enter 14 args) W := fun args W => by kernel_rfl
  go_enter Tryd.func13, Tryd.ntmps13
  go_wp2_with (at_builtin; refine wpList_buf_lit rfl _ _ 33 rfl 5 Tryd.underlying33 u8J base _ l rfl hbuf _ _ [44] rfl 1 1 rfl rfl (by simp only [List.length_append, List.length_cons, List.length_nil]; omega) hbase ?_)
  intro v1 w1 hb1 hB1
  have hbs1 := Nat.le_trans hbase hB1.size
  go_wp2_with fail
  refine (quote_any w1.heap.size (.slice none 0 0) [] name w1 (by simp; omega) (Buf.nil _ _ _) (Nat.le_refl _)).mono ?_
  rintro e w2 ⟨q, rfl, hbq, hR2⟩
  rw [List.nil_append] at hbq
  have hb2 := hb1.below hR2.1
  have hB2 := hB1.trans (Gr.of_new hbs1 hR2.1)
  have hbs2 := Nat.le_trans hbase hB2.size
  go_wp2_with (at_builtin; refine wpList_buf_buf rfl _ _ 33 rfl 5 Tryd.underlying33 u8J base _ _ rfl hb2 _ _ _ rfl hbq (by simp only [List.length_append, List.length_cons, List.length_nil]; omega) hbs2 ?_)
  intro v3 w3 hb3 hR3
  have hB3 := hB2.trans hR3
  have hbs3 := Nat.le_trans hbase hB3.size
  go_wp2_with (at_builtin; refine wpList_buf_lit rfl _ _ 33 rfl 5 Tryd.underlying33 u8J base _ _ rfl hb3 _ _ [58, 91] rfl 2 2 rfl rfl (by simp only [List.length_append, List.length_cons, List.length_nil]; omega) hbs3 ?_)
  intro v4 w4 hb4 hR4
  have hB4 := hB3.trans hR4
  go_wp2_with fail
  clear hb1 hB1 hbs1 hbq hR2 hb2 hB2 hbs2 hb3 hR3 hB3 hbs3 hR4
  have hlN : (l ++ 44 :: (quoteL name.data.toList ++ [58, 91])).length + 50000 ≤ 140737488355328 := by simp only [List.length_append, List.length_cons, List.length_nil]; omega
  have hfin : ∀ W v', Buf 5 W base v' ((l ++ 44 :: (quoteL name.data.toList ++ [58, 91])) ++ (rowsJ false ((rows.map fvJ).map objB) ++ [93])) → Buf 5 W base v' (l ++ arrB name ((rows.map fvJ).map objB)) := by intro W v' h; simpa [arrB] using h
  have HF := Lib.hid hfin
  have hb4 : Buf 5 w4 base v4 (l ++ 44 :: (quoteL name.data.toList ++ [58, 91])) := by simpa using hb4
  generalize l ++ 44 :: (quoteL name.data.toList ++ [58, 91]) = l2 at *
  clear hfin hbuf hl hql hnm
  go_loopw [0, 20] (fun b i wr => ∃ (v' : Value) (k : Nat), b = v' ∧ i = .int .i64 k ∧ k ≤ rows.length ∧ Buf 5 wr base v' (l2 ++ rowsJ false (((rows.take k).map fvJ).map objB)) ∧ Gr 5 base w wr) (fun _ i _ => rows.length - (intOf i).toNat)
  case atStart => exact ⟨v4, 0, rfl, rfl, Nat.zero_le _, by simpa [rowsJ] using hb4, hB4⟩
  case round =>
    obtain ⟨v', k, rfl, rfl, hk, hb, hB⟩ := hrel
    have hbs := Nat.le_trans hbase hB.1.size
    have hsz : ∀ y ∈ (rows.map fvJ).map objB, y.length ≤ 1107 := by
      intro y hy
      obtain ⟨z, hz, rfl⟩ := List.mem_map.1 hy
      obtain ⟨x, hx, rfl⟩ := List.mem_map.1 hz
      exact objB_len (fldsJ ⟨0, 0, none⟩ x) (show (5 : Nat) ≤ 5 by decide) (smallJ (hsm x hx) _)
    have hfl := rowsJ_len2 (((rows.take k).map fvJ).map objB) (fun y hy => hsz y (by simp only [List.map_take] at hy; exact List.mem_of_mem_take hy))
    have hkl : (((rows.take k).map fvJ).map objB).length = k := by simp; omega
    rw [hkl] at hfl
    by_cases hlt : k < rows.length
    · have hx : rows[k]? = some rows[k] := List.getElem?_eq_getElem hlt
      have hq := rowsJ_snoc (((rows.take k).map fvJ).map objB) (objB (fvJ rows[k]))
      have hq2 : ((rows.take (k + 1)).map fvJ).map objB = ((rows.take k).map fvJ).map objB ++ [objB (fvJ rows[k])] := by rw [List.take_succ_eq_append_getElem hlt, List.map_append, List.map_append]; rfl
      rw [← hq2, hkl] at hq
      have hsx := hsm rows[k] (List.getElem_mem hlt)
      obtain ⟨a, rfl, hab, _, hat⟩ := hel.at_ (k := k) (r := rowJ rows[k]) (by rw [List.getElem?_map, hx]; rfl)
      have hAt : ∀ W, Gr 5 base wr W → At W (a.add (k * 5)) (rowJ rows[k]) := fun W hW => hat.below (hB.trans hW).1 (by rw [block_of_add]; exact hab)
      have hPr := hP.below hB.1
      have hQ : ∀ W v2, Buf 5 W base v2 ((l2 ++ rowsJ false (((rows.take k).map fvJ).map objB)) ++ ((if 0 < k then [44] else []) ++ objB (fvJ rows[k]))) → Buf 5 W base v2 (l2 ++ rowsJ false (((rows.take (k + 1)).map fvJ).map objB)) := by
        intro W v2 h; rw [hq]; simpa using h
      have HQ := Lib.hid hQ
      have hLN : (l2 ++ rowsJ false (((rows.take k).map fvJ).map objB)).length + 5000 ≤ 140737488355328 := by simp only [List.length_append]; omega
      clear hQ hq hq2 hx hsm hsz hfl hkl hel hP hat HF
      generalize l2 ++ rowsJ false (((rows.take k).map fvJ).map objB) = L at *
      generalize rows[k] = x at *
      rcases Nat.eq_zero_or_pos k with h0 | h0
      · have hd : decide (0 < k) = false := by simp [h0]
        have hQ3 := HQ.out
        rw [if_neg (by omega), List.nil_append] at hQ3
        have HQ3 := Lib.hid hQ3
        clear hQ3 HQ h0
        go_upto_region 7 with fail
        obtain ⟨v2, hv2⟩ : ∃ v2, v2 = u0 := ⟨_, rfl⟩
        obtain ⟨w2, hw2⟩ : ∃ w2, w2 = wr := ⟨_, rfl⟩
        subst hv2
        subst hw2
        have hb2 : Buf 5 w2 base v2 L := hb
        have hL2 : L.length + 4500 ≤ 140737488355328 := by omega
        have hG2 : Gr 5 base w2 w2 := Gr.refl _ _ _
        clear hb hLN hd
        generalize L = L2 at *
        focus
          have hbs2 := Nat.le_trans hbs hG2.size
          go_wp2_with fail
          refine (jobFields_any (a.add (k * 5)) x w2).mono ?_
          rintro e w3 ⟨g, cs, rfl, bg, hcs, hg, hB3⟩
          have hb3 := hb2.below hB3
          have hG3 := hG2.trans (Gr.of_new hbs2 hB3)
          have hbs3 := Nat.le_trans hbs hG3.size
          go_wp2_with fail
          refine (object_any base v2 L2 (fldsJ (a.add (k * 5)) x) g 5 cs w3 hb3 hbs3 bg hcs (valsJ (hAt w3 hG3) (by rw [block_of_add]; exact hab)) (smallJ hsx _) (show (5 : Nat) ≤ 5 by decide) (by omega) (hPr.below hG3.1)).mono ?_
          rintro e w5 ⟨v5, rfl, hb5, hR5⟩
          go_wp2_with fail
          go_roundw
          case rel => exact ⟨v5, k + 1, rfl, by go_num, hlt, HQ3.out _ _ hb5, hB.trans (hG3.trans hR5)⟩
          case measure => simp [intOf]; omega
      · have hd : decide (0 < k) = true := by simp [h0]
        have hQ3 := HQ.out
        rw [if_pos h0, ← List.append_assoc] at hQ3
        have HQ3 := Lib.hid hQ3
        clear hQ3 HQ h0
        go_upto_region 7 with (at_builtin; refine wpList_buf_lit rfl _ _ 33 rfl 5 Tryd.underlying33 u8J base _ L rfl hb _ _ [44] rfl 1 1 rfl rfl (by simp only [List.length_append, List.length_cons, List.length_nil]; omega) hbs ?_; intro v2 w2 hb2 hG2)
        have hL2 : (L ++ [(44 : UInt8)]).length + 4500 ≤ 140737488355328 := by simp only [List.length_append, List.length_cons, List.length_nil]; omega
        clear hb hLN hd
        generalize L ++ [(44 : UInt8)] = L2 at *
        focus
          have hbs2 := Nat.le_trans hbs hG2.size
          go_wp2_with fail
          refine (jobFields_any (a.add (k * 5)) x w2).mono ?_
          rintro e w3 ⟨g, cs, rfl, bg, hcs, hg, hB3⟩
          have hb3 := hb2.below hB3
          have hG3 := hG2.trans (Gr.of_new hbs2 hB3)
          have hbs3 := Nat.le_trans hbs hG3.size
          go_wp2_with fail
          refine (object_any base v2 L2 (fldsJ (a.add (k * 5)) x) g 5 cs w3 hb3 hbs3 bg hcs (valsJ (hAt w3 hG3) (by rw [block_of_add]; exact hab)) (smallJ hsx _) (show (5 : Nat) ≤ 5 by decide) (by omega) (hPr.below hG3.1)).mono ?_
          rintro e w5 ⟨v5, rfl, hb5, hR5⟩
          go_wp2_with fail
          go_roundw
          case rel => exact ⟨v5, k + 1, rfl, by go_num, hlt, HQ3.out _ _ hb5, hB.trans (hG3.trans hR5)⟩
          case measure => simp [intOf]; omega
    · obtain rfl : k = rows.length := by omega
      rw [List.take_of_length_le (Nat.le_refl _)] at hb hfl
      have hL : (l2 ++ rowsJ false ((rows.map fvJ).map objB)).length + [(93 : UInt8)].length ≤ 140737488355328 := by
        simp only [List.length_append, List.length_cons, List.length_nil]; omega
      clear hfl hkl hsz
      go_wp2_with (at_builtin; refine wpList_buf_lit rfl _ _ 33 rfl 5 Tryd.underlying33 u8J base _ _ rfl hb _ _ [93] rfl 1 1 rfl rfl hL hbs ?_)
      intro v2 w2 hb2 hB2
      go_wp2_with fail
      go_ret
      exact ⟨v2, rfl, HF.out _ _ (by simpa using hb2), hB.trans hB2⟩
set_option maxHeartbeats 8000000 in
set_option maxRecDepth 100000 in
theorem arrayN_any (base : Nat) (v : Value) (l : List UInt8) (name : ByteArray) (rows : List NodeD) (p : Option Addr) (c : Nat) (w : World) (hbuf : Buf 5 w base v l) (hbase : base ≤ w.heap.size) (hel : Elts w base 3 p (rows.map rowN))
    (hsm : ∀ x ∈ rows, smN x) (hn : rows.length ≤ 40) (hnm : name.size ≤ 16) (hl : l.length + 60000 ≤ 140737488355328) (hP : LibP base w) :
    Calls Tryd.prog 15 #[v, .string name, .slice p rows.length c, .func (.func 16) #[] #[]] w fun e w' => ∃ v', e = .returned v' ∧ Buf 5 w' base v' (l ++ arrB name ((rows.map fvN).map objB)) ∧ Gr 5 base w w' := by
  have hql := quoteL_len name.data.toList
  rw [bl_len] at hql
  have hen : ∀ args W, (callFunc 16 args).run Tryd.prog W = .ok (.enter 16 args) W := fun args W => by kernel_rfl
  go_enter Tryd.func15, Tryd.ntmps15
  go_wp2_with (at_builtin; refine wpList_buf_lit rfl _ _ 33 rfl 5 Tryd.underlying33 u8J base _ l rfl hbuf _ _ [44] rfl 1 1 rfl rfl (by simp only [List.length_append, List.length_cons, List.length_nil]; omega) hbase ?_)
  intro v1 w1 hb1 hB1
  have hbs1 := Nat.le_trans hbase hB1.size
  go_wp2_with fail
  refine (quote_any w1.heap.size (.slice none 0 0) [] name w1 (by simp; omega) (Buf.nil _ _ _) (Nat.le_refl _)).mono ?_
  rintro e w2 ⟨q, rfl, hbq, hR2⟩
  rw [List.nil_append] at hbq
  have hb2 := hb1.below hR2.1
  have hB2 := hB1.trans (Gr.of_new hbs1 hR2.1)
  have hbs2 := Nat.le_trans hbase hB2.size
  go_wp2_with (at_builtin; refine wpList_buf_buf rfl _ _ 33 rfl 5 Tryd.underlying33 u8J base _ _ rfl hb2 _ _ _ rfl hbq (by simp only [List.length_append, List.length_cons, List.length_nil]; omega) hbs2 ?_)
  intro v3 w3 hb3 hR3
  have hB3 := hB2.trans hR3
  have hbs3 := Nat.le_trans hbase hB3.size
  go_wp2_with (at_builtin; refine wpList_buf_lit rfl _ _ 33 rfl 5 Tryd.underlying33 u8J base _ _ rfl hb3 _ _ [58, 91] rfl 2 2 rfl rfl (by simp only [List.length_append, List.length_cons, List.length_nil]; omega) hbs3 ?_)
  intro v4 w4 hb4 hR4
  have hB4 := hB3.trans hR4
  go_wp2_with fail
  clear hb1 hB1 hbs1 hbq hR2 hb2 hB2 hbs2 hb3 hR3 hB3 hbs3 hR4
  have hlN : (l ++ 44 :: (quoteL name.data.toList ++ [58, 91])).length + 50000 ≤ 140737488355328 := by simp only [List.length_append, List.length_cons, List.length_nil]; omega
  have hfin : ∀ W v', Buf 5 W base v' ((l ++ 44 :: (quoteL name.data.toList ++ [58, 91])) ++ (rowsJ false ((rows.map fvN).map objB) ++ [93])) → Buf 5 W base v' (l ++ arrB name ((rows.map fvN).map objB)) := by intro W v' h; simpa [arrB] using h
  have HF := Lib.hid hfin
  have hb4 : Buf 5 w4 base v4 (l ++ 44 :: (quoteL name.data.toList ++ [58, 91])) := by simpa using hb4
  generalize l ++ 44 :: (quoteL name.data.toList ++ [58, 91]) = l2 at *
  clear hfin hbuf hl hql hnm
  go_loopw [0, 20] (fun b i wr => ∃ (v' : Value) (k : Nat), b = v' ∧ i = .int .i64 k ∧ k ≤ rows.length ∧ Buf 5 wr base v' (l2 ++ rowsJ false (((rows.take k).map fvN).map objB)) ∧ Gr 5 base w wr) (fun _ i _ => rows.length - (intOf i).toNat)
  case atStart => exact ⟨v4, 0, rfl, rfl, Nat.zero_le _, by simpa [rowsJ] using hb4, hB4⟩
  case round =>
    obtain ⟨v', k, rfl, rfl, hk, hb, hB⟩ := hrel
    have hbs := Nat.le_trans hbase hB.1.size
    have hsz : ∀ y ∈ (rows.map fvN).map objB, y.length ≤ 1107 := by
      intro y hy
      obtain ⟨z, hz, rfl⟩ := List.mem_map.1 hy
      obtain ⟨x, hx, rfl⟩ := List.mem_map.1 hz
      exact objB_len (fldsN ⟨0, 0, none⟩ x) (show (3 : Nat) ≤ 5 by decide) (smallN (hsm x hx) _)
    have hfl := rowsJ_len2 (((rows.take k).map fvN).map objB) (fun y hy => hsz y (by simp only [List.map_take] at hy; exact List.mem_of_mem_take hy))
    have hkl : (((rows.take k).map fvN).map objB).length = k := by simp; omega
    rw [hkl] at hfl
    by_cases hlt : k < rows.length
    · have hx : rows[k]? = some rows[k] := List.getElem?_eq_getElem hlt
      have hq := rowsJ_snoc (((rows.take k).map fvN).map objB) (objB (fvN rows[k]))
      have hq2 : ((rows.take (k + 1)).map fvN).map objB = ((rows.take k).map fvN).map objB ++ [objB (fvN rows[k])] := by rw [List.take_succ_eq_append_getElem hlt, List.map_append, List.map_append]; rfl
      rw [← hq2, hkl] at hq
      have hsx := hsm rows[k] (List.getElem_mem hlt)
      obtain ⟨a, rfl, hab, _, hat⟩ := hel.at_ (k := k) (r := rowN rows[k]) (by rw [List.getElem?_map, hx]; rfl)
      have hAt : ∀ W, Gr 5 base wr W → At W (a.add (k * 3)) (rowN rows[k]) := fun W hW => hat.below (hB.trans hW).1 (by rw [block_of_add]; exact hab)
      have hPr := hP.below hB.1
      have hQ : ∀ W v2, Buf 5 W base v2 ((l2 ++ rowsJ false (((rows.take k).map fvN).map objB)) ++ ((if 0 < k then [44] else []) ++ objB (fvN rows[k]))) → Buf 5 W base v2 (l2 ++ rowsJ false (((rows.take (k + 1)).map fvN).map objB)) := by
        intro W v2 h; rw [hq]; simpa using h
      have HQ := Lib.hid hQ
      have hLN : (l2 ++ rowsJ false (((rows.take k).map fvN).map objB)).length + 5000 ≤ 140737488355328 := by simp only [List.length_append]; omega
      clear hQ hq hq2 hx hsm hsz hfl hkl hel hP hat HF
      generalize l2 ++ rowsJ false (((rows.take k).map fvN).map objB) = L at *
      generalize rows[k] = x at *
      rcases Nat.eq_zero_or_pos k with h0 | h0
      · have hd : decide (0 < k) = false := by simp [h0]
        have hQ3 := HQ.out
        rw [if_neg (by omega), List.nil_append] at hQ3
        have HQ3 := Lib.hid hQ3
        clear hQ3 HQ h0
        go_upto_region 7 with fail
        obtain ⟨v2, hv2⟩ : ∃ v2, v2 = u0 := ⟨_, rfl⟩
        obtain ⟨w2, hw2⟩ : ∃ w2, w2 = wr := ⟨_, rfl⟩
        subst hv2
        subst hw2
        have hb2 : Buf 5 w2 base v2 L := hb
        have hL2 : L.length + 4500 ≤ 140737488355328 := by omega
        have hG2 : Gr 5 base w2 w2 := Gr.refl _ _ _
        clear hb hLN hd
        generalize L = L2 at *
        focus
          have hbs2 := Nat.le_trans hbs hG2.size
          go_wp2_with fail
          refine (nodeFields_any (a.add (k * 3)) x w2).mono ?_
          rintro e w3 ⟨g, cs, rfl, bg, hcs, hg, hB3⟩
          have hb3 := hb2.below hB3
          have hG3 := hG2.trans (Gr.of_new hbs2 hB3)
          have hbs3 := Nat.le_trans hbs hG3.size
          go_wp2_with fail
          refine (object_any base v2 L2 (fldsN (a.add (k * 3)) x) g 3 cs w3 hb3 hbs3 bg hcs (valsN (hAt w3 hG3) (by rw [block_of_add]; exact hab)) (smallN hsx _) (show (3 : Nat) ≤ 5 by decide) (by omega) (hPr.below hG3.1)).mono ?_
          rintro e w5 ⟨v5, rfl, hb5, hR5⟩
          go_wp2_with fail
          go_roundw
          case rel => exact ⟨v5, k + 1, rfl, by go_num, hlt, HQ3.out _ _ hb5, hB.trans (hG3.trans hR5)⟩
          case measure => simp [intOf]; omega
      · have hd : decide (0 < k) = true := by simp [h0]
        have hQ3 := HQ.out
        rw [if_pos h0, ← List.append_assoc] at hQ3
        have HQ3 := Lib.hid hQ3
        clear hQ3 HQ h0
        go_upto_region 7 with (at_builtin; refine wpList_buf_lit rfl _ _ 33 rfl 5 Tryd.underlying33 u8J base _ L rfl hb _ _ [44] rfl 1 1 rfl rfl (by simp only [List.length_append, List.length_cons, List.length_nil]; omega) hbs ?_; intro v2 w2 hb2 hG2)
        have hL2 : (L ++ [(44 : UInt8)]).length + 4500 ≤ 140737488355328 := by simp only [List.length_append, List.length_cons, List.length_nil]; omega
        clear hb hLN hd
        generalize L ++ [(44 : UInt8)] = L2 at *
        focus
          have hbs2 := Nat.le_trans hbs hG2.size
          go_wp2_with fail
          refine (nodeFields_any (a.add (k * 3)) x w2).mono ?_
          rintro e w3 ⟨g, cs, rfl, bg, hcs, hg, hB3⟩
          have hb3 := hb2.below hB3
          have hG3 := hG2.trans (Gr.of_new hbs2 hB3)
          have hbs3 := Nat.le_trans hbs hG3.size
          go_wp2_with fail
          refine (object_any base v2 L2 (fldsN (a.add (k * 3)) x) g 3 cs w3 hb3 hbs3 bg hcs (valsN (hAt w3 hG3) (by rw [block_of_add]; exact hab)) (smallN hsx _) (show (3 : Nat) ≤ 5 by decide) (by omega) (hPr.below hG3.1)).mono ?_
          rintro e w5 ⟨v5, rfl, hb5, hR5⟩
          go_wp2_with fail
          go_roundw
          case rel => exact ⟨v5, k + 1, rfl, by go_num, hlt, HQ3.out _ _ hb5, hB.trans (hG3.trans hR5)⟩
          case measure => simp [intOf]; omega
    · obtain rfl : k = rows.length := by omega
      rw [List.take_of_length_le (Nat.le_refl _)] at hb hfl
      have hL : (l2 ++ rowsJ false ((rows.map fvN).map objB)).length + [(93 : UInt8)].length ≤ 140737488355328 := by
        simp only [List.length_append, List.length_cons, List.length_nil]; omega
      clear hfl hkl hsz
      go_wp2_with (at_builtin; refine wpList_buf_lit rfl _ _ 33 rfl 5 Tryd.underlying33 u8J base _ _ rfl hb _ _ [93] rfl 1 1 rfl rfl hL hbs ?_)
      intro v2 w2 hb2 hB2
      go_wp2_with fail
      go_ret
      exact ⟨v2, rfl, HF.out _ _ (by simpa using hb2), hB.trans hB2⟩
set_option maxHeartbeats 8000000 in
set_option maxRecDepth 100000 in
theorem arrayL_any (base : Nat) (v : Value) (l : List UInt8) (name : ByteArray) (rows : List LeaseD) (p : Option Addr) (c : Nat) (w : World) (hbuf : Buf 5 w base v l) (hbase : base ≤ w.heap.size) (hel : Elts w base 3 p (rows.map rowL))
    (hsm : ∀ x ∈ rows, smL x) (hn : rows.length ≤ 40) (hnm : name.size ≤ 16) (hl : l.length + 60000 ≤ 140737488355328) (hP : LibP base w) :
    Calls Tryd.prog 17 #[v, .string name, .slice p rows.length c, .func (.func 18) #[] #[]] w fun e w' => ∃ v', e = .returned v' ∧ Buf 5 w' base v' (l ++ arrB name ((rows.map fvL).map objB)) ∧ Gr 5 base w w' := by
  have hql := quoteL_len name.data.toList
  rw [bl_len] at hql
  have hen : ∀ args W, (callFunc 18 args).run Tryd.prog W = .ok (.enter 18 args) W := fun args W => by kernel_rfl
  go_enter Tryd.func17, Tryd.ntmps17
  go_wp2_with (at_builtin; refine wpList_buf_lit rfl _ _ 33 rfl 5 Tryd.underlying33 u8J base _ l rfl hbuf _ _ [44] rfl 1 1 rfl rfl (by simp only [List.length_append, List.length_cons, List.length_nil]; omega) hbase ?_)
  intro v1 w1 hb1 hB1
  have hbs1 := Nat.le_trans hbase hB1.size
  go_wp2_with fail
  refine (quote_any w1.heap.size (.slice none 0 0) [] name w1 (by simp; omega) (Buf.nil _ _ _) (Nat.le_refl _)).mono ?_
  rintro e w2 ⟨q, rfl, hbq, hR2⟩
  rw [List.nil_append] at hbq
  have hb2 := hb1.below hR2.1
  have hB2 := hB1.trans (Gr.of_new hbs1 hR2.1)
  have hbs2 := Nat.le_trans hbase hB2.size
  go_wp2_with (at_builtin; refine wpList_buf_buf rfl _ _ 33 rfl 5 Tryd.underlying33 u8J base _ _ rfl hb2 _ _ _ rfl hbq (by simp only [List.length_append, List.length_cons, List.length_nil]; omega) hbs2 ?_)
  intro v3 w3 hb3 hR3
  have hB3 := hB2.trans hR3
  have hbs3 := Nat.le_trans hbase hB3.size
  go_wp2_with (at_builtin; refine wpList_buf_lit rfl _ _ 33 rfl 5 Tryd.underlying33 u8J base _ _ rfl hb3 _ _ [58, 91] rfl 2 2 rfl rfl (by simp only [List.length_append, List.length_cons, List.length_nil]; omega) hbs3 ?_)
  intro v4 w4 hb4 hR4
  have hB4 := hB3.trans hR4
  go_wp2_with fail
  clear hb1 hB1 hbs1 hbq hR2 hb2 hB2 hbs2 hb3 hR3 hB3 hbs3 hR4
  have hlN : (l ++ 44 :: (quoteL name.data.toList ++ [58, 91])).length + 50000 ≤ 140737488355328 := by simp only [List.length_append, List.length_cons, List.length_nil]; omega
  have hfin : ∀ W v', Buf 5 W base v' ((l ++ 44 :: (quoteL name.data.toList ++ [58, 91])) ++ (rowsJ false ((rows.map fvL).map objB) ++ [93])) → Buf 5 W base v' (l ++ arrB name ((rows.map fvL).map objB)) := by intro W v' h; simpa [arrB] using h
  have HF := Lib.hid hfin
  have hb4 : Buf 5 w4 base v4 (l ++ 44 :: (quoteL name.data.toList ++ [58, 91])) := by simpa using hb4
  generalize l ++ 44 :: (quoteL name.data.toList ++ [58, 91]) = l2 at *
  clear hfin hbuf hl hql hnm
  go_loopw [0, 20] (fun b i wr => ∃ (v' : Value) (k : Nat), b = v' ∧ i = .int .i64 k ∧ k ≤ rows.length ∧ Buf 5 wr base v' (l2 ++ rowsJ false (((rows.take k).map fvL).map objB)) ∧ Gr 5 base w wr) (fun _ i _ => rows.length - (intOf i).toNat)
  case atStart => exact ⟨v4, 0, rfl, rfl, Nat.zero_le _, by simpa [rowsJ] using hb4, hB4⟩
  case round =>
    obtain ⟨v', k, rfl, rfl, hk, hb, hB⟩ := hrel
    have hbs := Nat.le_trans hbase hB.1.size
    have hsz : ∀ y ∈ (rows.map fvL).map objB, y.length ≤ 1107 := by
      intro y hy
      obtain ⟨z, hz, rfl⟩ := List.mem_map.1 hy
      obtain ⟨x, hx, rfl⟩ := List.mem_map.1 hz
      exact objB_len (fldsL ⟨0, 0, none⟩ x) (show (3 : Nat) ≤ 5 by decide) (smallL (hsm x hx) _)
    have hfl := rowsJ_len2 (((rows.take k).map fvL).map objB) (fun y hy => hsz y (by simp only [List.map_take] at hy; exact List.mem_of_mem_take hy))
    have hkl : (((rows.take k).map fvL).map objB).length = k := by simp; omega
    rw [hkl] at hfl
    by_cases hlt : k < rows.length
    · have hx : rows[k]? = some rows[k] := List.getElem?_eq_getElem hlt
      have hq := rowsJ_snoc (((rows.take k).map fvL).map objB) (objB (fvL rows[k]))
      have hq2 : ((rows.take (k + 1)).map fvL).map objB = ((rows.take k).map fvL).map objB ++ [objB (fvL rows[k])] := by rw [List.take_succ_eq_append_getElem hlt, List.map_append, List.map_append]; rfl
      rw [← hq2, hkl] at hq
      have hsx := hsm rows[k] (List.getElem_mem hlt)
      obtain ⟨a, rfl, hab, _, hat⟩ := hel.at_ (k := k) (r := rowL rows[k]) (by rw [List.getElem?_map, hx]; rfl)
      have hAt : ∀ W, Gr 5 base wr W → At W (a.add (k * 3)) (rowL rows[k]) := fun W hW => hat.below (hB.trans hW).1 (by rw [block_of_add]; exact hab)
      have hPr := hP.below hB.1
      have hQ : ∀ W v2, Buf 5 W base v2 ((l2 ++ rowsJ false (((rows.take k).map fvL).map objB)) ++ ((if 0 < k then [44] else []) ++ objB (fvL rows[k]))) → Buf 5 W base v2 (l2 ++ rowsJ false (((rows.take (k + 1)).map fvL).map objB)) := by
        intro W v2 h; rw [hq]; simpa using h
      have HQ := Lib.hid hQ
      have hLN : (l2 ++ rowsJ false (((rows.take k).map fvL).map objB)).length + 5000 ≤ 140737488355328 := by simp only [List.length_append]; omega
      clear hQ hq hq2 hx hsm hsz hfl hkl hel hP hat HF
      generalize l2 ++ rowsJ false (((rows.take k).map fvL).map objB) = L at *
      generalize rows[k] = x at *
      rcases Nat.eq_zero_or_pos k with h0 | h0
      · have hd : decide (0 < k) = false := by simp [h0]
        have hQ3 := HQ.out
        rw [if_neg (by omega), List.nil_append] at hQ3
        have HQ3 := Lib.hid hQ3
        clear hQ3 HQ h0
        go_upto_region 7 with fail
        obtain ⟨v2, hv2⟩ : ∃ v2, v2 = u0 := ⟨_, rfl⟩
        obtain ⟨w2, hw2⟩ : ∃ w2, w2 = wr := ⟨_, rfl⟩
        subst hv2
        subst hw2
        have hb2 : Buf 5 w2 base v2 L := hb
        have hL2 : L.length + 4500 ≤ 140737488355328 := by omega
        have hG2 : Gr 5 base w2 w2 := Gr.refl _ _ _
        clear hb hLN hd
        generalize L = L2 at *
        focus
          have hbs2 := Nat.le_trans hbs hG2.size
          go_wp2_with fail
          refine (leaseFields_any (a.add (k * 3)) x w2).mono ?_
          rintro e w3 ⟨g, cs, rfl, bg, hcs, hg, hB3⟩
          have hb3 := hb2.below hB3
          have hG3 := hG2.trans (Gr.of_new hbs2 hB3)
          have hbs3 := Nat.le_trans hbs hG3.size
          go_wp2_with fail
          refine (object_any base v2 L2 (fldsL (a.add (k * 3)) x) g 3 cs w3 hb3 hbs3 bg hcs (valsL (hAt w3 hG3) (by rw [block_of_add]; exact hab)) (smallL hsx _) (show (3 : Nat) ≤ 5 by decide) (by omega) (hPr.below hG3.1)).mono ?_
          rintro e w5 ⟨v5, rfl, hb5, hR5⟩
          go_wp2_with fail
          go_roundw
          case rel => exact ⟨v5, k + 1, rfl, by go_num, hlt, HQ3.out _ _ hb5, hB.trans (hG3.trans hR5)⟩
          case measure => simp [intOf]; omega
      · have hd : decide (0 < k) = true := by simp [h0]
        have hQ3 := HQ.out
        rw [if_pos h0, ← List.append_assoc] at hQ3
        have HQ3 := Lib.hid hQ3
        clear hQ3 HQ h0
        go_upto_region 7 with (at_builtin; refine wpList_buf_lit rfl _ _ 33 rfl 5 Tryd.underlying33 u8J base _ L rfl hb _ _ [44] rfl 1 1 rfl rfl (by simp only [List.length_append, List.length_cons, List.length_nil]; omega) hbs ?_; intro v2 w2 hb2 hG2)
        have hL2 : (L ++ [(44 : UInt8)]).length + 4500 ≤ 140737488355328 := by simp only [List.length_append, List.length_cons, List.length_nil]; omega
        clear hb hLN hd
        generalize L ++ [(44 : UInt8)] = L2 at *
        focus
          have hbs2 := Nat.le_trans hbs hG2.size
          go_wp2_with fail
          refine (leaseFields_any (a.add (k * 3)) x w2).mono ?_
          rintro e w3 ⟨g, cs, rfl, bg, hcs, hg, hB3⟩
          have hb3 := hb2.below hB3
          have hG3 := hG2.trans (Gr.of_new hbs2 hB3)
          have hbs3 := Nat.le_trans hbs hG3.size
          go_wp2_with fail
          refine (object_any base v2 L2 (fldsL (a.add (k * 3)) x) g 3 cs w3 hb3 hbs3 bg hcs (valsL (hAt w3 hG3) (by rw [block_of_add]; exact hab)) (smallL hsx _) (show (3 : Nat) ≤ 5 by decide) (by omega) (hPr.below hG3.1)).mono ?_
          rintro e w5 ⟨v5, rfl, hb5, hR5⟩
          go_wp2_with fail
          go_roundw
          case rel => exact ⟨v5, k + 1, rfl, by go_num, hlt, HQ3.out _ _ hb5, hB.trans (hG3.trans hR5)⟩
          case measure => simp [intOf]; omega
    · obtain rfl : k = rows.length := by omega
      rw [List.take_of_length_le (Nat.le_refl _)] at hb hfl
      have hL : (l2 ++ rowsJ false ((rows.map fvL).map objB)).length + [(93 : UInt8)].length ≤ 140737488355328 := by
        simp only [List.length_append, List.length_cons, List.length_nil]; omega
      clear hfl hkl hsz
      go_wp2_with (at_builtin; refine wpList_buf_lit rfl _ _ 33 rfl 5 Tryd.underlying33 u8J base _ _ rfl hb _ _ [93] rfl 1 1 rfl rfl hL hbs ?_)
      intro v2 w2 hb2 hB2
      go_wp2_with fail
      go_ret
      exact ⟨v2, rfl, HF.out _ _ (by simpa using hb2), hB.trans hB2⟩
end Go.Proofs.YtoepchgoacdodaaDoor
