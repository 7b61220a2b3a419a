/-
 Contracts of package json: a record printed.
-/
import Derived.Test.YtoepchgoacdodaaDoorJsonW
import Derived.Test.YtoepchgoacdodaaDoorJsonS
set_option linter.unusedVariables false
set_option linter.unusedSimpArgs false
namespace Go.Proofs.YtoepchgoacdodaaDoor
open Go.RowKit
/-- A field of a record: its name, its value, and where that lies. -/
structure FldP where
  name : ByteArray
  v : FV
  p : Addr
def fldRow (f : FldP) : List Value := [.string f.name, .pointer (if f.v.isNum = true then some f.p else none), .pointer (if f.v.isNum = true then none else some f.p)]
def fldPair (f : FldP) : ByteArray × FV := (f.name, f.v)
def smallF (f : FldP) : Prop := f.name.size ≤ 16 ∧ f.v.ok ∧ ∀ s, f.v = .txt s → s.size ≤ 16
theorem fldRow_len (l : List FldP) : ∀ r ∈ l.map fldRow, r.length = 3 := by intro r hr; obtain ⟨f, _, rfl⟩ := List.mem_map.1 hr; rfl
theorem Blk.elts {w : World} {F size : Nat} {t : TypeId} {cs : Array Value} (hb : Blk w F t cs) {rows : List (List Value)} (hs : ∀ r ∈ rows, r.length = size) (hc : cs.toList = rows.flatten) : Elts w (F + 1) size (some ⟨F, 0, none⟩) rows := by
  have hlen : rows.flatten.length = rows.length * size := by
    clear hc hb
    induction rows with
    | nil => simp
    | cons r l ih => rw [List.flatten_cons, List.length_append, ih (fun x hx => hs x (by simp [hx])), hs r (by simp), List.length_cons, Nat.succ_mul]; omega
  exact Elts.of_reads hs ⟨hlen, fun _ => ⟨_, rfl, by simp, fun j u h => At.blk hb j u (by rw [hc]; exact h)⟩⟩ rfl
theorem fieldsB_snoc (l : List (ByteArray × FV)) (x : ByteArray × FV) : fieldsB false (l ++ [x]) = fieldsB false l ++ ((if 0 < l.length then [44] else []) ++ fieldB x.1 x.2) := by
  have h : ∀ (c : Bool) (l : List (ByteArray × FV)), fieldsB c (l ++ [x]) = fieldsB c l ++ ((if c = true ∨ 0 < l.length then [44] else []) ++ fieldB x.1 x.2) := by
    intro c l
    induction l generalizing c with
    | nil => obtain ⟨n, v⟩ := x; cases c <;> simp [fieldsB]
    | cons y l ih => obtain ⟨n, v⟩ := y; rw [List.cons_append]; simp only [fieldsB]; rw [ih true]; simp
  have := h false l
  simpa using this
theorem fieldB_len {f : FldP} (h : smallF f) : (fieldB f.name f.v).length ≤ 220 := by
  have h1 := quoteL_len f.name.data.toList
  have h2 : f.name.data.toList.length ≤ 16 := by rw [bl_len]; exact h.1
  unfold fieldB
  cases hv : f.v with
  | num n =>
    have h3 := h.2.1; rw [hv] at h3
    have := Lib.itoa_length_le n h3.1 h3.2
    simp; omega
  | txt s =>
    have h3 := h.2.2 s hv
    have h4 := quoteL_len s.data.toList
    rw [bl_len] at h4
    simp; omega
theorem fieldsB_len (l : List FldP) (h : ∀ f ∈ l, smallF f) : (fieldsB false (l.map fldPair)).length ≤ 221 * l.length := by
  have g : ∀ (c : Bool), (fieldsB c (l.map fldPair)).length ≤ 221 * l.length := by
    induction l with
    | nil => intro c; simp [fieldsB]
    | cons f l ih =>
      intro c
      have h1 := ih (fun x hx => h x (by simp [hx])) true
      have h2 := fieldB_len (h f (by simp))
      rw [List.map_cons]
      show ((if c = true then [44] else []) ++ (fieldB f.name f.v ++ fieldsB true (l.map fldPair))).length ≤ _
      have h3 : (if c = true then [(44 : UInt8)] else []).length ≤ 1 := by cases c <;> simp
      simp only [List.length_append, List.length_cons] at *
      omega
  exact g false
theorem zero_field (W : World) : (zeroValue 75).run Tryd.prog W = .ok (.agg #[.string ByteArray.empty, .pointer none, .pointer none]) W := by kernel_rfl
theorem field_size : (Tryd.prog.info? 75).map (·.size) = some 3 := by kernel_rfl
set_option maxHeartbeats 8000000 in
set_option maxRecDepth 100000 in
theorem object_any (base : Nat) (v : Value) (l : List UInt8) (fs : List FldP) (F c : Nat) (cs : Array Value) (w : World) (hbuf : Buf 5 w base v l) (hbase : base ≤ w.heap.size) (hF : Blk w F 75 cs) (hcs : cs.toList = (fs.map fldRow).flatten)
    (hv : ∀ f ∈ fs, w.cell? f.p = some f.v.val ∧ f.p.block < base) (hsm : ∀ f ∈ fs, smallF f) (hn : fs.length ≤ 5) (hl : l.length + 4000 ≤ 140737488355328) (hP : LibP base w) :
    Calls Tryd.prog 30 #[v, .slice (some ⟨F, 0, none⟩) fs.length c] w fun e w' => ∃ v', e = .returned v' ∧ Buf 5 w' base v' (l ++ objB (fs.map fldPair)) ∧ Gr 5 base w w' := by
  have hz := zero_field
  go_enter Tryd.func30, Tryd.ntmps30
  go_wp2_with (at_builtin; refine wpList_buf_lit rfl _ _ 33 rfl 5 Tryd.underlying33 u8J base _ l rfl hbuf _ _ [123] rfl 1 1 rfl rfl (by simp; omega) hbase ?_)
  intro v1 w1 hb1 hB1
  go_wp2_with fail
  go_loopw [0, 12] (fun b i wr => ∃ (v' : Value) (k : Nat), b = v' ∧ i = .int .i64 k ∧ k ≤ fs.length ∧ Buf 5 wr base v' (l ++ 123 :: fieldsB false ((fs.take k).map fldPair)) ∧ Gr 5 base w wr) (fun _ i _ => fs.length - (intOf i).toNat)
  case atStart => exact ⟨v1, 0, rfl, rfl, Nat.zero_le _, by simpa [fieldsB] using hb1, hB1⟩
  case round =>
    obtain ⟨v', k, rfl, rfl, hk, hb, hB⟩ := hrel
    have hbs := Nat.le_trans hbase hB.1.size
    have hfl := fieldsB_len (fs.take k) (fun f hf => hsm f (List.mem_of_mem_take hf))
    have hkl : (fs.take k).length = k := by simp; omega
    rw [hkl] at hfl
    by_cases hlt : k < fs.length
    · have hx : fs[k]? = some fs[k] := List.getElem?_eq_getElem hlt
      have hq := fieldsB_snoc ((fs.take k).map fldPair) (fldPair fs[k])
      have hq2 : (fs.take (k + 1)).map fldPair = (fs.take k).map fldPair ++ [fldPair fs[k]] := by rw [List.take_succ_eq_append_getElem hlt, List.map_append]; rfl
      rw [← hq2, List.length_map, hkl] at hq
      have hvk := hv fs[k] (List.getElem_mem hlt)
      have hsk := hsm fs[k] (List.getElem_mem hlt)
      have hbl := fieldB_len hsk
      have hFr := hB.blk hF (by decide)
      obtain ⟨a, ha, _, _, hat⟩ := (hFr.elts (fldRow_len fs) hcs).at_ (k := k) (r := fldRow fs[k]) (by rw [List.getElem?_map, hx]; rfl)
      injection ha with ha
      subst ha
      have hpv : ∀ W, Gr 5 base wr W → W.cell? fs[k].p = some fs[k].v.val := fun W hW => ((hB.trans hW).1.cell hvk.2).trans hvk.1
      have hPr := hP.below hB.1
      have hQ : ∀ W v2, Buf 5 W base v2 ((l ++ 123 :: fieldsB false ((fs.take k).map fldPair)) ++ ((if 0 < k then [44] else []) ++ fieldB fs[k].name fs[k].v)) → Buf 5 W base v2 (l ++ 123 :: fieldsB false ((fs.take (k + 1)).map fldPair)) := by
        intro W v2 h; rw [hq]; simpa [fldPair] using h
      have HQ := Lib.hid hQ
      have hLN : (l ++ 123 :: fieldsB false ((fs.take k).map fldPair)).length + 1000 ≤ 140737488355328 := by simp only [List.length_append, List.length_cons]; omega
      clear hQ hq hq2 hx hv hsm hF hcs hfl hkl hvk hP hFr
      generalize l ++ 123 :: fieldsB false ((fs.take k).map fldPair) = L at *
      generalize fs[k] = f at *
      have hadd : (⟨F, 0, none⟩ : Addr).add (k * 3) = ⟨F, k * 3, none⟩ := by unfold Addr.add; split <;> simp_all
      rw [hadd] at hat
      have hat1 : At wr ⟨F, k * 3, none⟩ [.string f.name, .pointer (if f.v.isNum = true then some f.p else none), .pointer (if f.v.isNum = true then none else some f.p)] := hat
      obtain ⟨hn16, hok, ht16⟩ := hsk
      clear hat hadd
      unfold fieldB at HQ
      obtain ⟨n, hv⟩ | ⟨s, hv⟩ : (∃ n, f.v = .num n) ∨ ∃ s, f.v = .txt s := by
        cases f.v with
        | num n => exact .inl ⟨_, rfl⟩
        | txt s => exact .inr ⟨_, rfl⟩
      all_goals rw [hv] at hat1 HQ hpv hok hbl
      · have hat2 : At wr ⟨F, k * 3, none⟩ [.string f.name, .pointer (some f.p), .pointer none] := by simpa [FV.isNum] using hat1
        have hQ2 : ∀ W v2, Buf 5 W base v2 (L ++ ((if 0 < k then [44] else []) ++ (quoteL f.name.data.toList ++ 58 :: Lib.itoa n))) → Buf 5 W base v2 (l ++ 123 :: fieldsB false ((fs.take (k + 1)).map fldPair)) := HQ.out
        have HQ2 := Lib.hid hQ2
        clear hat1 HQ hQ2
        go_upto_region 5 with (first
          | (refine wpList_load_at rfl _ _ rfl ⟨F, k * 3, none⟩ rfl [.string f.name, .pointer (some f.p), .pointer none] _ hat2 Tryd.underlying75 rfl field_size ?_)
          | (refine wpList_store_new rfl _ _ _ rfl rfl 75 _ _ rfl field_size rfl rfl ?_))
        have bx := Blk.new wr 75 #[.string f.name, .pointer (some f.p), .pointer none]
        have hG0 : Gr 5 base wr (wr.alloc (.cells #[.string f.name, .pointer (some f.p), .pointer none] 75)) := Gr.alloc hbs _
        have hb1 := hb.alloc (.cells #[.string f.name, .pointer (some f.p), .pointer none] 75)
        generalize wr.alloc (.cells #[.string f.name, .pointer (some f.p), .pointer none] 75) = W at *
        have hbsW := Nat.le_trans hbs hG0.size
        clear hat2 hb
        rcases Nat.eq_zero_or_pos k with h0 | h0
        · have hd : decide (0 < k) = false := by simp [h0]
          have hQ3 := HQ2.out
          rw [if_neg (by omega), List.nil_append] at hQ3
          have HQ3 := Lib.hid hQ3
          go_upto_region 7 with fail
          clear hQ3 HQ2 hd
          obtain ⟨v2, hv2⟩ : ∃ v2, v2 = u0 := ⟨_, rfl⟩
          obtain ⟨w2, hw2⟩ : ∃ w2, w2 = W := ⟨_, rfl⟩
          subst hv2
          subst hw2
          have hb2 : Buf 5 w2 base v2 L := hb1
          have hL2 : L.length + 900 ≤ 140737488355328 := by omega
          have hG2 : Gr 5 base wr w2 := hG0
          have bx2 : Blk w2 wr.heap.size 75 #[.string f.name, .pointer (some f.p), .pointer none] := bx
          clear hb1 hG0 bx hLN
          generalize L = L2 at *
          have hbs2 := Nat.le_trans hbs hG2.size
          have x0 : w2.cell? ⟨wr.heap.size, 0, none⟩ = some (.string f.name) := bx2.cell 0
          have hql := quoteL_len f.name.data.toList
          rw [bl_len] at hql
          go_wp2_with fail
          refine (quote_any base v2 L2 f.name w2 (by omega) hb2 hbs2).mono ?_
          rintro e w3 ⟨v3, rfl, hb3, hR3⟩
          have bx3 := hR3.blk bx2 (by decide)
          have hG3 := hG2.trans hR3
          have hbs3 := Nat.le_trans hbs hG3.size
          clear bx2 x0 hb2
          go_upto_region 8 with (at_builtin; refine wpList_buf_lit rfl _ _ 33 rfl 5 Tryd.underlying33 u8J base _ _ rfl hb3 _ _ [58] rfl 1 1 rfl rfl (by simp only [List.length_append, List.length_cons, List.length_nil]; omega) hbs3 ?_; intro v4 w4 hb4 hR4)
          have bx4 := hR4.blk bx3 (by decide)
          have hG4 := hG3.trans hR4
          have hbs4 := Nat.le_trans hbs hG4.size
          have x1 : w4.cell? ⟨wr.heap.size, 1, none⟩ = some (.pointer (some f.p)) := bx4.cell 1
          have x2 : w4.cell? ⟨wr.heap.size, 2, none⟩ = some (.pointer none) := bx4.cell 2
          have xp : w4.cell? f.p = some (.int .i64 n) := hpv w4 hG4
          clear hR3 hR4 bx3 hb3
          go_wp2_with fail
          refine (appInt_any base n hok.1 hok.2 v4 _ w4 hb4 hbs4 (by simp only [List.length_append, List.length_cons, List.length_nil]; omega) (hPr.below hG4.1)).mono ?_
          rintro e w5 ⟨v5, rfl, hb5, hR5⟩
          go_wp2_with fail
          go_roundw
          case rel => exact ⟨v5, k + 1, rfl, by go_num, hlt, HQ3.out _ _ (by simpa using hb5), hB.trans (hG4.trans hR5)⟩
          case measure => simp [intOf]; omega
        · have hd : decide (0 < k) = true := by simp [h0]
          have hQ3 := HQ2.out
          rw [if_pos h0, ← List.append_assoc] at hQ3
          have HQ3 := Lib.hid hQ3
          go_upto_region 7 with (at_builtin; refine wpList_buf_lit rfl _ _ 33 rfl 5 Tryd.underlying33 u8J base _ L rfl hb1 _ _ [44] rfl 1 1 rfl rfl (by simp only [List.length_cons, List.length_nil]; omega) hbsW ?_; intro v2 w2 hb2 hB2)
          clear hQ3 HQ2 hd
          have hL2 : (L ++ [(44 : UInt8)]).length + 900 ≤ 140737488355328 := by simp only [List.length_append, List.length_cons, List.length_nil]; omega
          have hG2 := hG0.trans hB2
          have bx2 := hB2.blk bx (by decide)
          clear hb1 hG0 bx hLN
          generalize L ++ [(44 : UInt8)] = L2 at *
          have hbs2 := Nat.le_trans hbs hG2.size
          have x0 : w2.cell? ⟨wr.heap.size, 0, none⟩ = some (.string f.name) := bx2.cell 0
          have hql := quoteL_len f.name.data.toList
          rw [bl_len] at hql
          go_wp2_with fail
          refine (quote_any base v2 L2 f.name w2 (by omega) hb2 hbs2).mono ?_
          rintro e w3 ⟨v3, rfl, hb3, hR3⟩
          have bx3 := hR3.blk bx2 (by decide)
          have hG3 := hG2.trans hR3
          have hbs3 := Nat.le_trans hbs hG3.size
          clear bx2 x0 hb2
          go_upto_region 8 with (at_builtin; refine wpList_buf_lit rfl _ _ 33 rfl 5 Tryd.underlying33 u8J base _ _ rfl hb3 _ _ [58] rfl 1 1 rfl rfl (by simp only [List.length_append, List.length_cons, List.length_nil]; omega) hbs3 ?_; intro v4 w4 hb4 hR4)
          have bx4 := hR4.blk bx3 (by decide)
          have hG4 := hG3.trans hR4
          have hbs4 := Nat.le_trans hbs hG4.size
          have x1 : w4.cell? ⟨wr.heap.size, 1, none⟩ = some (.pointer (some f.p)) := bx4.cell 1
          have x2 : w4.cell? ⟨wr.heap.size, 2, none⟩ = some (.pointer none) := bx4.cell 2
          have xp : w4.cell? f.p = some (.int .i64 n) := hpv w4 hG4
          clear hR3 hR4 bx3 hb3
          go_wp2_with fail
          refine (appInt_any base n hok.1 hok.2 v4 _ w4 hb4 hbs4 (by simp only [List.length_append, List.length_cons, List.length_nil]; omega) (hPr.below hG4.1)).mono ?_
          rintro e w5 ⟨v5, rfl, hb5, hR5⟩
          go_wp2_with fail
          go_roundw
          case rel => exact ⟨v5, k + 1, rfl, by go_num, hlt, HQ3.out _ _ (by simpa using hb5), hB.trans (hG4.trans hR5)⟩
          case measure => simp [intOf]; omega
      · have hat2 : At wr ⟨F, k * 3, none⟩ [.string f.name, .pointer none, .pointer (some f.p)] := by simpa [FV.isNum] using hat1
        have hQ2 : ∀ W v2, Buf 5 W base v2 (L ++ ((if 0 < k then [44] else []) ++ (quoteL f.name.data.toList ++ 58 :: quoteL s.data.toList))) → Buf 5 W base v2 (l ++ 123 :: fieldsB false ((fs.take (k + 1)).map fldPair)) := HQ.out
        have HQ2 := Lib.hid hQ2
        clear hat1 HQ hQ2
        go_upto_region 5 with (first
          | (refine wpList_load_at rfl _ _ rfl ⟨F, k * 3, none⟩ rfl [.string f.name, .pointer none, .pointer (some f.p)] _ hat2 Tryd.underlying75 rfl field_size ?_)
          | (refine wpList_store_new rfl _ _ _ rfl rfl 75 _ _ rfl field_size rfl rfl ?_))
        have bx := Blk.new wr 75 #[.string f.name, .pointer none, .pointer (some f.p)]
        have hG0 : Gr 5 base wr (wr.alloc (.cells #[.string f.name, .pointer none, .pointer (some f.p)] 75)) := Gr.alloc hbs _
        have hb1 := hb.alloc (.cells #[.string f.name, .pointer none, .pointer (some f.p)] 75)
        generalize wr.alloc (.cells #[.string f.name, .pointer none, .pointer (some f.p)] 75) = W at *
        have hbsW := Nat.le_trans hbs hG0.size
        clear hat2 hb
        have hs16 := ht16 s hv
        rcases Nat.eq_zero_or_pos k with h0 | h0
        · have hd : decide (0 < k) = false := by simp [h0]
          have hQ3 := HQ2.out
          rw [if_neg (by omega), List.nil_append] at hQ3
          have HQ3 := Lib.hid hQ3
          go_upto_region 7 with fail
          clear hQ3 HQ2 hd
          obtain ⟨v2, hv2⟩ : ∃ v2, v2 = u0 := ⟨_, rfl⟩
          obtain ⟨w2, hw2⟩ : ∃ w2, w2 = W := ⟨_, rfl⟩
          subst hv2
          subst hw2
          have hb2 : Buf 5 w2 base v2 L := hb1
          have hL2 : L.length + 900 ≤ 140737488355328 := by omega
          have hG2 : Gr 5 base wr w2 := hG0
          have bx2 : Blk w2 wr.heap.size 75 #[.string f.name, .pointer none, .pointer (some f.p)] := bx
          clear hb1 hG0 bx hLN
          generalize L = L2 at *
          have hbs2 := Nat.le_trans hbs hG2.size
          have x0 : w2.cell? ⟨wr.heap.size, 0, none⟩ = some (.string f.name) := bx2.cell 0
          have hql := quoteL_len f.name.data.toList
          rw [bl_len] at hql
          go_wp2_with fail
          refine (quote_any base v2 L2 f.name w2 (by omega) hb2 hbs2).mono ?_
          rintro e w3 ⟨v3, rfl, hb3, hR3⟩
          have bx3 := hR3.blk bx2 (by decide)
          have hG3 := hG2.trans hR3
          have hbs3 := Nat.le_trans hbs hG3.size
          clear bx2 x0 hb2
          go_upto_region 8 with (at_builtin; refine wpList_buf_lit rfl _ _ 33 rfl 5 Tryd.underlying33 u8J base _ _ rfl hb3 _ _ [58] rfl 1 1 rfl rfl (by simp only [List.length_append, List.length_cons, List.length_nil]; omega) hbs3 ?_; intro v4 w4 hb4 hR4)
          have bx4 := hR4.blk bx3 (by decide)
          have hG4 := hG3.trans hR4
          have hbs4 := Nat.le_trans hbs hG4.size
          have x1 : w4.cell? ⟨wr.heap.size, 1, none⟩ = some (.pointer none) := bx4.cell 1
          have x2 : w4.cell? ⟨wr.heap.size, 2, none⟩ = some (.pointer (some f.p)) := bx4.cell 2
          have xp : w4.cell? f.p = some (.string s) := hpv w4 hG4
          clear hR3 hR4 bx3 hb3
          go_wp2_with fail
          refine (quote_any base v4 _ s w4 (by simp only [List.length_append, List.length_cons, List.length_nil]; omega) hb4 hbs4).mono ?_
          rintro e w5 ⟨v5, rfl, hb5, hR5⟩
          go_wp2_with fail
          go_roundw
          case rel => exact ⟨v5, k + 1, rfl, by go_num, hlt, HQ3.out _ _ (by simpa using hb5), hB.trans (hG4.trans hR5)⟩
          case measure => simp [intOf]; omega
        · have hd : decide (0 < k) = true := by simp [h0]
          have hQ3 := HQ2.out
          rw [if_pos h0, ← List.append_assoc] at hQ3
          have HQ3 := Lib.hid hQ3
          go_upto_region 7 with (at_builtin; refine wpList_buf_lit rfl _ _ 33 rfl 5 Tryd.underlying33 u8J base _ L rfl hb1 _ _ [44] rfl 1 1 rfl rfl (by simp only [List.length_cons, List.length_nil]; omega) hbsW ?_; intro v2 w2 hb2 hB2)
          clear hQ3 HQ2 hd
          have hL2 : (L ++ [(44 : UInt8)]).length + 900 ≤ 140737488355328 := by simp only [List.length_append, List.length_cons, List.length_nil]; omega
          have hG2 := hG0.trans hB2
          have bx2 := hB2.blk bx (by decide)
          clear hb1 hG0 bx hLN
          generalize L ++ [(44 : UInt8)] = L2 at *
          have hbs2 := Nat.le_trans hbs hG2.size
          have x0 : w2.cell? ⟨wr.heap.size, 0, none⟩ = some (.string f.name) := bx2.cell 0
          have hql := quoteL_len f.name.data.toList
          rw [bl_len] at hql
          go_wp2_with fail
          refine (quote_any base v2 L2 f.name w2 (by omega) hb2 hbs2).mono ?_
          rintro e w3 ⟨v3, rfl, hb3, hR3⟩
          have bx3 := hR3.blk bx2 (by decide)
          have hG3 := hG2.trans hR3
          have hbs3 := Nat.le_trans hbs hG3.size
          clear bx2 x0 hb2
          go_upto_region 8 with (at_builtin; refine wpList_buf_lit rfl _ _ 33 rfl 5 Tryd.underlying33 u8J base _ _ rfl hb3 _ _ [58] rfl 1 1 rfl rfl (by simp only [List.length_append, List.length_cons, List.length_nil]; omega) hbs3 ?_; intro v4 w4 hb4 hR4)
          have bx4 := hR4.blk bx3 (by decide)
          have hG4 := hG3.trans hR4
          have hbs4 := Nat.le_trans hbs hG4.size
          have x1 : w4.cell? ⟨wr.heap.size, 1, none⟩ = some (.pointer none) := bx4.cell 1
          have x2 : w4.cell? ⟨wr.heap.size, 2, none⟩ = some (.pointer (some f.p)) := bx4.cell 2
          have xp : w4.cell? f.p = some (.string s) := hpv w4 hG4
          clear hR3 hR4 bx3 hb3
          go_wp2_with fail
          refine (quote_any base v4 _ s w4 (by simp only [List.length_append, List.length_cons, List.length_nil]; omega) hb4 hbs4).mono ?_
          rintro e w5 ⟨v5, rfl, hb5, hR5⟩
          go_wp2_with fail
          go_roundw
          case rel => exact ⟨v5, k + 1, rfl, by go_num, hlt, HQ3.out _ _ (by simpa using hb5), hB.trans (hG4.trans hR5)⟩
          case measure => simp [intOf]; omega
    · obtain rfl : k = fs.length := by omega
      rw [List.take_of_length_le (Nat.le_refl _)] at hb
      have hL : (l ++ 123 :: fieldsB false (fs.map fldPair)).length + [(125 : UInt8)].length ≤ 140737488355328 := by
        have := fieldsB_len fs hsm; simp only [List.length_append, List.length_cons, List.length_nil]; omega
      go_wp2_with (at_builtin; refine wpList_buf_lit rfl _ _ 33 rfl 5 Tryd.underlying33 u8J base _ _ rfl hb _ _ [125] rfl 1 1 rfl rfl hL hbs ?_)
      intro v2 w2 hb2 hB2
      go_wp2_with fail
      go_ret
      exact ⟨v2, rfl, by simpa [objB] using hb2, hB.trans hB2⟩
end Go.Proofs.YtoepchgoacdodaaDoor
