/-
  Several texts in one: JsonW, JsonO, JsonA, JsonB.
-/
import Derived.Test.YtdicoepjkngikaaGreatDoorRows
import Derived.Test.YtdicoepjkngikaaGreatDoorPkJsA
import Derived.Test.YtdicoepjkngikaaGreatDoorPkBase
import Derived.Deep.RegionLaw
import Derived.BigRegion
/-
 Contracts of package json: quoting.
-/
set_option linter.unusedVariables false
set_option linter.unusedSimpArgs false
namespace Go.Proofs.YtdicoepjkngikaaGreatDoor
open Go.RowKit
theorem u8J : (Tryz.prog.info? 5).map (fun i => (i.zero, i.size, i.bytes)) = some (some (.int .u8 0), 1, 1) := by kernel_rfl
theorem and15 : ∀ n : Nat, n < 256 → bits BinOp.and IntKind.u8 (n : Int) 15 = ((n % 16 : Nat) : Int) := by decide +kernel
def hexS : ByteArray := ⟨#[48, 49, 50, 51, 52, 53, 54, 55, 56, 57, 97, 98, 99, 100, 101, 102]⟩
theorem hex_get : ∀ k : Nat, ∀ h : k < 16, ((hexS[k]'h).toNat : Int) = ((hexD k).toNat : Int) := by decide
theorem quoteI_take (l : List UInt8) (k : Nat) (h : k < l.length) : quoteI (l.take (k + 1)) = quoteI (l.take k) ++ qB l[k] := by
  rw [List.take_succ_eq_append_getElem h, quoteI_append]; simp [quoteI]
set_option maxHeartbeats 4000000 in
set_option maxRecDepth 100000 in
theorem quote_any (base : Nat) (v : Value) (l : List UInt8) (s : ByteArray) (w : World) (hl : l.length + 6 * s.size + 2 ≤ 140737488355328) (hbuf : Buf 5 w base v l) (hbase : base ≤ w.heap.size) :
    Calls Tryz.prog 72 #[v, .string s] w fun e w' => ∃ v', e = .returned v' ∧ Buf 5 w' base v' (l ++ quoteL s.data.toList) ∧ Gr 5 base w w' := by
  go_enter Tryz.func72, Tryz.ntmps72
  go_wp2_with (at_builtin; refine wpList_buf_lit rfl _ _ 43 rfl 5 Tryz.underlying43 u8J base _ l rfl hbuf _ _ [34] rfl 1 1 rfl rfl (by simp; omega) hbase ?_)
  intro v1 w1 hb1 hB1
  go_wp2_with fail
  go_loopw [0, 12] (fun b i wr => ∃ (v' : Value) (k : Nat), b = v' ∧ i = .int .i64 k ∧ k ≤ s.size ∧ Buf 5 wr base v' (l ++ 34 :: quoteI (s.data.toList.take k)) ∧ Gr 5 base w wr) (fun _ i _ => s.size - (intOf i).toNat)
  case atStart => exact ⟨v1, 0, rfl, rfl, Nat.zero_le _, by simpa [quoteI] using hb1, hB1⟩
  case round =>
    obtain ⟨v', k, rfl, rfl, hk, hb, hB⟩ := hrel
    have hbs := Nat.le_trans hbase hB.1.size
    have hql := quoteI_len (s.data.toList.take k)
    have hqt : (s.data.toList.take k).length = k := by simp; omega
    have hlen : (l ++ 34 :: quoteI (s.data.toList.take k)).length = l.length + 1 + (quoteI (s.data.toList.take k)).length := by simp; omega
    by_cases hlt : k < s.size
    · have hq := quoteI_take s.data.toList k (by simpa using hlt)
      have hc : s.data.toList[k]'(by simpa using hlt) = s[k] := rfl
      rw [hc] at hq
      have hrow : ∀ news : List UInt8, news.length ≤ 6 → (l ++ 34 :: quoteI (s.data.toList.take k)).length + news.length ≤ 140737488355328 := by
        intro news hn; have := hql.2; rw [hqt] at this; omega
      have hlt' := (s[k]).toNat_lt
      have hQ : ∀ W v2, Buf 5 W base v2 (l ++ 34 :: (quoteI (s.data.toList.take k) ++ qB s[k])) → Buf 5 W base v2 (l ++ 34 :: quoteI (s.data.toList.take (k + 1))) := by
        intro W v2 h; rw [hq]; simpa using h
      have HQ := Lib.hid hQ
      clear hQ hq hc hql hqt hlen
      by_cases h34 : s[k] = 34 ∨ s[k] = 92
      · have e : qB s[k] = [92, s[k]] := by unfold qB; rw [if_pos h34]
        rw [e] at HQ
        have hb2 : ((((s[k]).toNat : Int) == 34) = true ∨ (((s[k]).toNat : Int) == 34) = false ∧ (((s[k]).toNat : Int) == 92) = true) := by
          rcases h34 with h | h
          · rw [h]; exact .inl rfl
          · rw [h]; exact .inr ⟨rfl, rfl⟩
        clear e h34
        rcases hb2 with h1 | ⟨h1, h2⟩
        all_goals
          go_wp2_with (at_builtin; refine wpList_buf_lit rfl _ _ 43 rfl 5 Tryz.underlying43 u8J base _ _ rfl hb _ _ [92, s[k]] rfl 2 2 rfl rfl (hrow _ (by simp)) hbs ?_)
          intro v2 w2 hb2 hB2
          go_wp2_with fail
          go_roundw
          case rel => exact ⟨v2, k + 1, rfl, by go_num, hlt, HQ.out _ _ hb2, hB.trans hB2⟩
          case measure => simp [intOf]; omega
      · have n34 : (((s[k]).toNat : Int) == 34) = false := beq_eq_false_iff_ne.2 (fun h => h34 (.inl (UInt8.toNat_inj.1 (by simpa using Int.ofNat.inj h))))
        have n92 : (((s[k]).toNat : Int) == 92) = false := beq_eq_false_iff_ne.2 (fun h => h34 (.inr (UInt8.toNat_inj.1 (by simpa using Int.ofNat.inj h))))
        by_cases h32 : s[k] < 32
        · have e : qB s[k] = [92, 117, 48, 48, hexD ((s[k]).toNat / 16), hexD ((s[k]).toNat % 16)] := by unfold qB; rw [if_neg h34, if_pos h32]
          have l32 : ((s[k]).toNat : Int) < 32 := by have : (s[k]).toNat < 32 := (by simpa [UInt8.lt_iff_toNat_lt] using h32); omega
          obtain ⟨x, hx⟩ : ∃ x, x = (s[k]).toNat / 16 := ⟨_, rfl⟩
          obtain ⟨y, hy⟩ : ∃ y, y = (s[k]).toNat % 16 := ⟨_, rfl⟩
          have hx16 : x < 16 := by omega
          have hy16 : y < 16 := by omega
          have i1 := hex_get x hx16
          have i2 := hex_get y hy16
          unfold hexS at i1 i2
          have e16 : ((s[k]).toNat : Int) / 16 = (x : Int) := by omega
          have e15 : bits BinOp.and IntKind.u8 ((s[k]).toNat : Int) 15 = (y : Int) := by rw [hy]; exact and15 _ hlt'
          have g1 : (x : Int) < 16 := by omega
          have g2 : (y : Int) < 16 := by omega
          rw [← hx, ← hy] at e
          clear hx hy
          rw [e] at HQ
          clear e h34 h32
          have hbd := hb.drew
          have hbsd : base ≤ wr.drew.heap.size := hbs
          go_wp2_with fail
          go_region_law (refine step_buf_lit rfl _ _ 43 rfl 5 Tryz.underlying43 u8J base _ _ rfl hbd _ _ [92, 117, 48, 48, hexD x, hexD y] rfl 6 6 rfl rfl (hrow _ (by simp)) hbsd ?_; intro v2 w2 hb2 hB2)
          all_goals
            go_wp2_with fail
            go_roundw
            case rel => exact ⟨v2, k + 1, rfl, by go_num, hlt, HQ.out _ _ (by simpa using hb2), hB.trans ((Gr.drew _ _ _).trans hB2)⟩
            case measure => simp [intOf]; omega
        · have e : qB s[k] = [s[k]] := by unfold qB; rw [if_neg h34, if_neg h32]
          have l32 : ¬ ((s[k]).toNat : Int) < 32 := by intro h; exact h32 (by rw [UInt8.lt_iff_toNat_lt]; show (s[k]).toNat < 32; omega)
          rw [e] at HQ
          clear e h34 h32
          go_wp2_with (at_builtin; refine wpList_buf_lit rfl _ _ 43 rfl 5 Tryz.underlying43 u8J base _ _ rfl hb _ _ [s[k]] rfl 1 1 rfl rfl (hrow _ (by simp)) hbs ?_)
          intro v2 w2 hb2 hB2
          go_wp2_with fail
          go_roundw
          case rel => exact ⟨v2, k + 1, rfl, by go_num, hlt, HQ.out _ _ hb2, hB.trans hB2⟩
          case measure => simp [intOf]; omega
    · obtain rfl : k = s.size := by omega
      have ht : s.data.toList.take s.size = s.data.toList := List.take_of_length_le (by simp)
      rw [ht] at hb hlen hql
      have hL : (l ++ 34 :: quoteI s.data.toList).length + [(34 : UInt8)].length ≤ 140737488355328 := by
        rw [hlen]; have h1 := hql.2; have h2 : s.data.toList.length = s.size := (by simp); rw [h2] at h1; simp only [List.length_cons, List.length_nil]; omega
      clear hlen hql hqt ht
      go_wp2_with (at_builtin; refine wpList_buf_lit rfl _ _ 43 rfl 5 Tryz.underlying43 u8J base _ _ rfl hb _ _ [34] rfl 1 1 rfl rfl hL hbs ?_)
      intro v2 w2 hb2 hB2
      go_wp2_with fail
      go_ret
      exact ⟨v2, rfl, by simpa [quoteL] using hb2, hB.trans hB2⟩
set_option maxHeartbeats 1000000 in
set_option maxRecDepth 100000 in
theorem Quote_any (s : ByteArray) (w : World) (hs : 6 * s.size + 2 ≤ 140737488355328) :
    Calls Tryz.prog 56 #[.string s] w fun e w' => e = .returned (.string (bstr (quoteL s.data.toList))) ∧ Below w.heap.size w w' := by
  have HQ := Lib.hid (quote_any w.heap.size (.slice none 0 0) [] s w (by simpa using hs) (Buf.nil _ _ _) (Nat.le_refl _))
  go_enter Tryz.func56, Tryz.ntmps56
  go_wp2_with (go_at_call 72; refine HQ.out.mono ?_; rintro e w1 ⟨v1, rfl, hb, hbel⟩; have hcv := buf_string (P := Tryz.prog) (U := 5) (src := 43) (dst := 9) Tryz.underlying43 Tryz.underlying5 Tryz.underlying9 hb)
  go_ret
  exact ⟨by simp [bstr], hbel.1⟩
end Go.Proofs.YtdicoepjkngikaaGreatDoor

/-
 Contracts of package json: a record printed.
-/
set_option linter.unusedVariables false
set_option linter.unusedSimpArgs false
namespace Go.Proofs.YtdicoepjkngikaaGreatDoor
open Go.RowKit
/-- A field of a record: its name, its value, and where that lies. -/
structure FldP where
  name : ByteArray
  v : FV
  p : Addr
def fldRow (f : FldP) : List Value := [.string f.name, .pointer (if f.v.isNum = true then some f.p else none), .pointer (if f.v.isNum = true then none else some f.p)]
def fldPair (f : FldP) : ByteArray × FV := (f.name, f.v)
def smallF (f : FldP) : Prop := f.name.size ≤ 16 ∧ f.v.ok ∧ ∀ s, f.v = .txt s → s.size ≤ 16
theorem fldRow_len (l : List FldP) : ∀ r ∈ l.map fldRow, r.length = 3 := by intro r hr; obtain ⟨f, _, rfl⟩ := List.mem_map.1 hr; rfl
theorem Blk.elts {w : World} {F size : Nat} {t : TypeId} {cs : Array Value} (hb : Blk w F t cs) {rows : List (List Value)} (hs : ∀ r ∈ rows, r.length = size) (hc : cs.toList = rows.flatten) : Elts w (F + 1) size (some ⟨F, 0, none⟩) rows := by
  have hlen : rows.flatten.length = rows.length * size := by
    clear hc hb
    induction rows with
    | nil => simp
    | cons r l ih => rw [List.flatten_cons, List.length_append, ih (fun x hx => hs x (by simp [hx])), hs r (by simp), List.length_cons, Nat.succ_mul]; omega
  exact Elts.of_reads hs ⟨hlen, fun _ => ⟨_, rfl, by simp, fun j u h => At.blk hb j u (by rw [hc]; exact h)⟩⟩ rfl
theorem fieldsB_snoc (l : List (ByteArray × FV)) (x : ByteArray × FV) : fieldsB false (l ++ [x]) = fieldsB false l ++ ((if 0 < l.length then [44] else []) ++ fieldB x.1 x.2) := by
  have h : ∀ (c : Bool) (l : List (ByteArray × FV)), fieldsB c (l ++ [x]) = fieldsB c l ++ ((if c = true ∨ 0 < l.length then [44] else []) ++ fieldB x.1 x.2) := by
    intro c l
    induction l generalizing c with
    | nil => obtain ⟨n, v⟩ := x; cases c <;> simp [fieldsB]
    | cons y l ih => obtain ⟨n, v⟩ := y; rw [List.cons_append]; simp only [fieldsB]; rw [ih true]; simp
  have := h false l
  simpa using this
theorem fieldB_len {f : FldP} (h : smallF f) : (fieldB f.name f.v).length ≤ 220 := by
  have h1 := quoteL_len f.name.data.toList
  have h2 : f.name.data.toList.length ≤ 16 := by rw [bl_len]; exact h.1
  unfold fieldB
  cases hv : f.v with
  | num n =>
    have h3 := h.2.1; rw [hv] at h3
    have := Lib.itoa_length_le n h3.1 h3.2
    simp; omega
  | txt s =>
    have h3 := h.2.2 s hv
    have h4 := quoteL_len s.data.toList
    rw [bl_len] at h4
    simp; omega
theorem fieldsB_len (l : List FldP) (h : ∀ f ∈ l, smallF f) : (fieldsB false (l.map fldPair)).length ≤ 221 * l.length := by
  have g : ∀ (c : Bool), (fieldsB c (l.map fldPair)).length ≤ 221 * l.length := by
    induction l with
    | nil => intro c; simp [fieldsB]
    | cons f l ih =>
      intro c
      have h1 := ih (fun x hx => h x (by simp [hx])) true
      have h2 := fieldB_len (h f (by simp))
      rw [List.map_cons]
      show ((if c = true then [44] else []) ++ (fieldB f.name f.v ++ fieldsB true (l.map fldPair))).length ≤ _
      have h3 : (if c = true then [(44 : UInt8)] else []).length ≤ 1 := by cases c <;> simp
      simp only [List.length_append, List.length_cons] at *
      omega
  exact g false
theorem zero_field (W : World) : (zeroValue 109).run Tryz.prog W = .ok (.agg #[.string ByteArray.empty, .pointer none, .pointer none]) W := by kernel_rfl
theorem field_size : (Tryz.prog.info? 109).map (·.size) = some 3 := by kernel_rfl
set_option maxHeartbeats 8000000 in
set_option maxRecDepth 100000 in
theorem object_any (base : Nat) (v : Value) (l : List UInt8) (fs : List FldP) (F c : Nat) (cs : Array Value) (w : World) (hbuf : Buf 5 w base v l) (hbase : base ≤ w.heap.size) (hF : Blk w F 109 cs) (hcs : cs.toList = (fs.map fldRow).flatten)
    (hv : ∀ f ∈ fs, w.cell? f.p = some f.v.val ∧ f.p.block < base) (hsm : ∀ f ∈ fs, smallF f) (hn : fs.length ≤ 5) (hl : l.length + 4000 ≤ 140737488355328) (hP : LibP base w) :
    Calls Tryz.prog 73 #[v, .slice (some ⟨F, 0, none⟩) fs.length c] w fun e w' => ∃ v', e = .returned v' ∧ Buf 5 w' base v' (l ++ objB (fs.map fldPair)) ∧ Gr 5 base w w' := by
  have hz := zero_field
  go_enter Tryz.func73, Tryz.ntmps73
  go_wp2_with (at_builtin; refine wpList_buf_lit rfl _ _ 43 rfl 5 Tryz.underlying43 u8J base _ l rfl hbuf _ _ [123] rfl 1 1 rfl rfl (by simp; omega) hbase ?_)
  intro v1 w1 hb1 hB1
  go_wp2_with fail
  go_loopw [0, 12] (fun b i wr => ∃ (v' : Value) (k : Nat), b = v' ∧ i = .int .i64 k ∧ k ≤ fs.length ∧ Buf 5 wr base v' (l ++ 123 :: fieldsB false ((fs.take k).map fldPair)) ∧ Gr 5 base w wr) (fun _ i _ => fs.length - (intOf i).toNat)
  case atStart => exact ⟨v1, 0, rfl, rfl, Nat.zero_le _, by simpa [fieldsB] using hb1, hB1⟩
  case round =>
    obtain ⟨v', k, rfl, rfl, hk, hb, hB⟩ := hrel
    have hbs := Nat.le_trans hbase hB.1.size
    have hfl := fieldsB_len (fs.take k) (fun f hf => hsm f (List.mem_of_mem_take hf))
    have hkl : (fs.take k).length = k := by simp; omega
    rw [hkl] at hfl
    by_cases hlt : k < fs.length
    · have hx : fs[k]? = some fs[k] := List.getElem?_eq_getElem hlt
      have hq := fieldsB_snoc ((fs.take k).map fldPair) (fldPair fs[k])
      have hq2 : (fs.take (k + 1)).map fldPair = (fs.take k).map fldPair ++ [fldPair fs[k]] := by rw [List.take_succ_eq_append_getElem hlt, List.map_append]; rfl
      rw [← hq2, List.length_map, hkl] at hq
      have hvk := hv fs[k] (List.getElem_mem hlt)
      have hsk := hsm fs[k] (List.getElem_mem hlt)
      have hbl := fieldB_len hsk
      have hFr := hB.blk hF (by decide)
      obtain ⟨a, ha, _, _, hat⟩ := (hFr.elts (fldRow_len fs) hcs).at_ (k := k) (r := fldRow fs[k]) (by rw [List.getElem?_map, hx]; rfl)
      injection ha with ha
      subst ha
      have hpv : ∀ W, Gr 5 base wr W → W.cell? fs[k].p = some fs[k].v.val := fun W hW => ((hB.trans hW).1.cell hvk.2).trans hvk.1
      have hPr := hP.below hB.1
      have hQ : ∀ W v2, Buf 5 W base v2 ((l ++ 123 :: fieldsB false ((fs.take k).map fldPair)) ++ ((if 0 < k then [44] else []) ++ fieldB fs[k].name fs[k].v)) → Buf 5 W base v2 (l ++ 123 :: fieldsB false ((fs.take (k + 1)).map fldPair)) := by
        intro W v2 h; rw [hq]; simpa [fldPair] using h
      have HQ := Lib.hid hQ
      have hLN : (l ++ 123 :: fieldsB false ((fs.take k).map fldPair)).length + 1000 ≤ 140737488355328 := by simp only [List.length_append, List.length_cons]; omega
      clear hQ hq hq2 hx hv hsm hF hcs hfl hkl hvk hP hFr
      generalize l ++ 123 :: fieldsB false ((fs.take k).map fldPair) = L at *
      generalize fs[k] = f at *
      have hadd : (⟨F, 0, none⟩ : Addr).add (k * 3) = ⟨F, k * 3, none⟩ := by unfold Addr.add; split <;> simp_all
      rw [hadd] at hat
      have hat1 : At wr ⟨F, k * 3, none⟩ [.string f.name, .pointer (if f.v.isNum = true then some f.p else none), .pointer (if f.v.isNum = true then none else some f.p)] := hat
      obtain ⟨hn16, hok, ht16⟩ := hsk
      clear hat hadd
      unfold fieldB at HQ
      obtain ⟨n, hv⟩ | ⟨s, hv⟩ : (∃ n, f.v = .num n) ∨ ∃ s, f.v = .txt s := by
        cases f.v with
        | num n => exact .inl ⟨_, rfl⟩
        | txt s => exact .inr ⟨_, rfl⟩
      all_goals rw [hv] at hat1 HQ hpv hok hbl
      · have hat2 : At wr ⟨F, k * 3, none⟩ [.string f.name, .pointer (some f.p), .pointer none] := by simpa [FV.isNum] using hat1
        have hQ2 : ∀ W v2, Buf 5 W base v2 (L ++ ((if 0 < k then [44] else []) ++ (quoteL f.name.data.toList ++ 58 :: Lib.itoa n))) → Buf 5 W base v2 (l ++ 123 :: fieldsB false ((fs.take (k + 1)).map fldPair)) := HQ.out
        have HQ2 := Lib.hid hQ2
        clear hat1 HQ hQ2
        go_upto_region 5 with (first
          | (refine wpList_load_at rfl _ _ rfl ⟨F, k * 3, none⟩ rfl [.string f.name, .pointer (some f.p), .pointer none] _ hat2 Tryz.underlying109 rfl field_size ?_)
          | (refine wpList_store_new rfl _ _ _ rfl rfl 109 _ _ rfl field_size rfl rfl ?_))
        have bx := Blk.new wr 109 #[.string f.name, .pointer (some f.p), .pointer none]
        have hG0 : Gr 5 base wr (wr.alloc (.cells #[.string f.name, .pointer (some f.p), .pointer none] 109)) := Gr.alloc hbs _
        have hb1 := hb.alloc (.cells #[.string f.name, .pointer (some f.p), .pointer none] 109)
        generalize wr.alloc (.cells #[.string f.name, .pointer (some f.p), .pointer none] 109) = W at *
        have hbsW := Nat.le_trans hbs hG0.size
        clear hat2 hb
        rcases Nat.eq_zero_or_pos k with h0 | h0
        · have hd : decide (0 < k) = false := by simp [h0]
          have hQ3 := HQ2.out
          rw [if_neg (by omega), List.nil_append] at hQ3
          have HQ3 := Lib.hid hQ3
          go_upto_region 7 with fail
          clear hQ3 HQ2 hd
          obtain ⟨v2, hv2⟩ : ∃ v2, v2 = u0 := ⟨_, rfl⟩
          obtain ⟨w2, hw2⟩ : ∃ w2, w2 = W := ⟨_, rfl⟩
          subst hv2
          subst hw2
          have hb2 : Buf 5 w2 base v2 L := hb1
          have hL2 : L.length + 900 ≤ 140737488355328 := by omega
          have hG2 : Gr 5 base wr w2 := hG0
          have bx2 : Blk w2 wr.heap.size 109 #[.string f.name, .pointer (some f.p), .pointer none] := bx
          clear hb1 hG0 bx hLN
          generalize L = L2 at *
          have hbs2 := Nat.le_trans hbs hG2.size
          have x0 : w2.cell? ⟨wr.heap.size, 0, none⟩ = some (.string f.name) := bx2.cell 0
          have hql := quoteL_len f.name.data.toList
          rw [bl_len] at hql
          go_wp2_with fail
          refine (quote_any base v2 L2 f.name w2 (by omega) hb2 hbs2).mono ?_
          rintro e w3 ⟨v3, rfl, hb3, hR3⟩
          have bx3 := hR3.blk bx2 (by decide)
          have hG3 := hG2.trans hR3
          have hbs3 := Nat.le_trans hbs hG3.size
          clear bx2 x0 hb2
          go_upto_region 8 with (at_builtin; refine wpList_buf_lit rfl _ _ 43 rfl 5 Tryz.underlying43 u8J base _ _ rfl hb3 _ _ [58] rfl 1 1 rfl rfl (by simp only [List.length_append, List.length_cons, List.length_nil]; omega) hbs3 ?_; intro v4 w4 hb4 hR4)
          have bx4 := hR4.blk bx3 (by decide)
          have hG4 := hG3.trans hR4
          have hbs4 := Nat.le_trans hbs hG4.size
          have x1 : w4.cell? ⟨wr.heap.size, 1, none⟩ = some (.pointer (some f.p)) := bx4.cell 1
          have x2 : w4.cell? ⟨wr.heap.size, 2, none⟩ = some (.pointer none) := bx4.cell 2
          have xp : w4.cell? f.p = some (.int .i64 n) := hpv w4 hG4
          clear hR3 hR4 bx3 hb3
          go_wp2_with fail
          refine (appInt_any base n hok.1 hok.2 v4 _ w4 hb4 hbs4 (by simp only [List.length_append, List.length_cons, List.length_nil]; omega) (hPr.below hG4.1)).mono ?_
          rintro e w5 ⟨v5, rfl, hb5, hR5⟩
          go_wp2_with fail
          go_roundw
          case rel => exact ⟨v5, k + 1, rfl, by go_num, hlt, HQ3.out _ _ (by simpa using hb5), hB.trans (hG4.trans hR5)⟩
          case measure => simp [intOf]; omega
        · have hd : decide (0 < k) = true := by simp [h0]
          have hQ3 := HQ2.out
          rw [if_pos h0, ← List.append_assoc] at hQ3
          have HQ3 := Lib.hid hQ3
          go_upto_region 7 with (at_builtin; refine wpList_buf_lit rfl _ _ 43 rfl 5 Tryz.underlying43 u8J base _ L rfl hb1 _ _ [44] rfl 1 1 rfl rfl (by simp only [List.length_cons, List.length_nil]; omega) hbsW ?_; intro v2 w2 hb2 hB2)
          clear hQ3 HQ2 hd
          have hL2 : (L ++ [(44 : UInt8)]).length + 900 ≤ 140737488355328 := by simp only [List.length_append, List.length_cons, List.length_nil]; omega
          have hG2 := hG0.trans hB2
          have bx2 := hB2.blk bx (by decide)
          clear hb1 hG0 bx hLN
          generalize L ++ [(44 : UInt8)] = L2 at *
          have hbs2 := Nat.le_trans hbs hG2.size
          have x0 : w2.cell? ⟨wr.heap.size, 0, none⟩ = some (.string f.name) := bx2.cell 0
          have hql := quoteL_len f.name.data.toList
          rw [bl_len] at hql
          go_wp2_with fail
          refine (quote_any base v2 L2 f.name w2 (by omega) hb2 hbs2).mono ?_
          rintro e w3 ⟨v3, rfl, hb3, hR3⟩
          have bx3 := hR3.blk bx2 (by decide)
          have hG3 := hG2.trans hR3
          have hbs3 := Nat.le_trans hbs hG3.size
          clear bx2 x0 hb2
          go_upto_region 8 with (at_builtin; refine wpList_buf_lit rfl _ _ 43 rfl 5 Tryz.underlying43 u8J base _ _ rfl hb3 _ _ [58] rfl 1 1 rfl rfl (by simp only [List.length_append, List.length_cons, List.length_nil]; omega) hbs3 ?_; intro v4 w4 hb4 hR4)
          have bx4 := hR4.blk bx3 (by decide)
          have hG4 := hG3.trans hR4
          have hbs4 := Nat.le_trans hbs hG4.size
          have x1 : w4.cell? ⟨wr.heap.size, 1, none⟩ = some (.pointer (some f.p)) := bx4.cell 1
          have x2 : w4.cell? ⟨wr.heap.size, 2, none⟩ = some (.pointer none) := bx4.cell 2
          have xp : w4.cell? f.p = some (.int .i64 n) := hpv w4 hG4
          clear hR3 hR4 bx3 hb3
          go_wp2_with fail
          refine (appInt_any base n hok.1 hok.2 v4 _ w4 hb4 hbs4 (by simp only [List.length_append, List.length_cons, List.length_nil]; omega) (hPr.below hG4.1)).mono ?_
          rintro e w5 ⟨v5, rfl, hb5, hR5⟩
          go_wp2_with fail
          go_roundw
          case rel => exact ⟨v5, k + 1, rfl, by go_num, hlt, HQ3.out _ _ (by simpa using hb5), hB.trans (hG4.trans hR5)⟩
          case measure => simp [intOf]; omega
      · have hat2 : At wr ⟨F, k * 3, none⟩ [.string f.name, .pointer none, .pointer (some f.p)] := by simpa [FV.isNum] using hat1
        have hQ2 : ∀ W v2, Buf 5 W base v2 (L ++ ((if 0 < k then [44] else []) ++ (quoteL f.name.data.toList ++ 58 :: quoteL s.data.toList))) → Buf 5 W base v2 (l ++ 123 :: fieldsB false ((fs.take (k + 1)).map fldPair)) := HQ.out
        have HQ2 := Lib.hid hQ2
        clear hat1 HQ hQ2
        go_upto_region 5 with (first
          | (refine wpList_load_at rfl _ _ rfl ⟨F, k * 3, none⟩ rfl [.string f.name, .pointer none, .pointer (some f.p)] _ hat2 Tryz.underlying109 rfl field_size ?_)
          | (refine wpList_store_new rfl _ _ _ rfl rfl 109 _ _ rfl field_size rfl rfl ?_))
        have bx := Blk.new wr 109 #[.string f.name, .pointer none, .pointer (some f.p)]
        have hG0 : Gr 5 base wr (wr.alloc (.cells #[.string f.name, .pointer none, .pointer (some f.p)] 109)) := Gr.alloc hbs _
        have hb1 := hb.alloc (.cells #[.string f.name, .pointer none, .pointer (some f.p)] 109)
        generalize wr.alloc (.cells #[.string f.name, .pointer none, .pointer (some f.p)] 109) = W at *
        have hbsW := Nat.le_trans hbs hG0.size
        clear hat2 hb
        have hs16 := ht16 s hv
        rcases Nat.eq_zero_or_pos k with h0 | h0
        · have hd : decide (0 < k) = false := by simp [h0]
          have hQ3 := HQ2.out
          rw [if_neg (by omega), List.nil_append] at hQ3
          have HQ3 := Lib.hid hQ3
          go_upto_region 7 with fail
          clear hQ3 HQ2 hd
          obtain ⟨v2, hv2⟩ : ∃ v2, v2 = u0 := ⟨_, rfl⟩
          obtain ⟨w2, hw2⟩ : ∃ w2, w2 = W := ⟨_, rfl⟩
          subst hv2
          subst hw2
          have hb2 : Buf 5 w2 base v2 L := hb1
          have hL2 : L.length + 900 ≤ 140737488355328 := by omega
          have hG2 : Gr 5 base wr w2 := hG0
          have bx2 : Blk w2 wr.heap.size 109 #[.string f.name, .pointer none, .pointer (some f.p)] := bx
          clear hb1 hG0 bx hLN
          generalize L = L2 at *
          have hbs2 := Nat.le_trans hbs hG2.size
          have x0 : w2.cell? ⟨wr.heap.size, 0, none⟩ = some (.string f.name) := bx2.cell 0
          have hql := quoteL_len f.name.data.toList
          rw [bl_len] at hql
          go_wp2_with fail
          refine (quote_any base v2 L2 f.name w2 (by omega) hb2 hbs2).mono ?_
          rintro e w3 ⟨v3, rfl, hb3, hR3⟩
          have bx3 := hR3.blk bx2 (by decide)
          have hG3 := hG2.trans hR3
          have hbs3 := Nat.le_trans hbs hG3.size
          clear bx2 x0 hb2
          go_upto_region 8 with (at_builtin; refine wpList_buf_lit rfl _ _ 43 rfl 5 Tryz.underlying43 u8J base _ _ rfl hb3 _ _ [58] rfl 1 1 rfl rfl (by simp only [List.length_append, List.length_cons, List.length_nil]; omega) hbs3 ?_; intro v4 w4 hb4 hR4)
          have bx4 := hR4.blk bx3 (by decide)
          have hG4 := hG3.trans hR4
          have hbs4 := Nat.le_trans hbs hG4.size
          have x1 : w4.cell? ⟨wr.heap.size, 1, none⟩ = some (.pointer none) := bx4.cell 1
          have x2 : w4.cell? ⟨wr.heap.size, 2, none⟩ = some (.pointer (some f.p)) := bx4.cell 2
          have xp : w4.cell? f.p = some (.string s) := hpv w4 hG4
          clear hR3 hR4 bx3 hb3
          go_wp2_with fail
          refine (quote_any base v4 _ s w4 (by simp only [List.length_append, List.length_cons, List.length_nil]; omega) hb4 hbs4).mono ?_
          rintro e w5 ⟨v5, rfl, hb5, hR5⟩
          go_wp2_with fail
          go_roundw
          case rel => exact ⟨v5, k + 1, rfl, by go_num, hlt, HQ3.out _ _ (by simpa using hb5), hB.trans (hG4.trans hR5)⟩
          case measure => simp [intOf]; omega
        · have hd : decide (0 < k) = true := by simp [h0]
          have hQ3 := HQ2.out
          rw [if_pos h0, ← List.append_assoc] at hQ3
          have HQ3 := Lib.hid hQ3
          go_upto_region 7 with (at_builtin; refine wpList_buf_lit rfl _ _ 43 rfl 5 Tryz.underlying43 u8J base _ L rfl hb1 _ _ [44] rfl 1 1 rfl rfl (by simp only [List.length_cons, List.length_nil]; omega) hbsW ?_; intro v2 w2 hb2 hB2)
          clear hQ3 HQ2 hd
          have hL2 : (L ++ [(44 : UInt8)]).length + 900 ≤ 140737488355328 := by simp only [List.length_append, List.length_cons, List.length_nil]; omega
          have hG2 := hG0.trans hB2
          have bx2 := hB2.blk bx (by decide)
          clear hb1 hG0 bx hLN
          generalize L ++ [(44 : UInt8)] = L2 at *
          have hbs2 := Nat.le_trans hbs hG2.size
          have x0 : w2.cell? ⟨wr.heap.size, 0, none⟩ = some (.string f.name) := bx2.cell 0
          have hql := quoteL_len f.name.data.toList
          rw [bl_len] at hql
          go_wp2_with fail
          refine (quote_any base v2 L2 f.name w2 (by omega) hb2 hbs2).mono ?_
          rintro e w3 ⟨v3, rfl, hb3, hR3⟩
          have bx3 := hR3.blk bx2 (by decide)
          have hG3 := hG2.trans hR3
          have hbs3 := Nat.le_trans hbs hG3.size
          clear bx2 x0 hb2
          go_upto_region 8 with (at_builtin; refine wpList_buf_lit rfl _ _ 43 rfl 5 Tryz.underlying43 u8J base _ _ rfl hb3 _ _ [58] rfl 1 1 rfl rfl (by simp only [List.length_append, List.length_cons, List.length_nil]; omega) hbs3 ?_; intro v4 w4 hb4 hR4)
          have bx4 := hR4.blk bx3 (by decide)
          have hG4 := hG3.trans hR4
          have hbs4 := Nat.le_trans hbs hG4.size
          have x1 : w4.cell? ⟨wr.heap.size, 1, none⟩ = some (.pointer none) := bx4.cell 1
          have x2 : w4.cell? ⟨wr.heap.size, 2, none⟩ = some (.pointer (some f.p)) := bx4.cell 2
          have xp : w4.cell? f.p = some (.string s) := hpv w4 hG4
          clear hR3 hR4 bx3 hb3
          go_wp2_with fail
          refine (quote_any base v4 _ s w4 (by simp only [List.length_append, List.length_cons, List.length_nil]; omega) hb4 hbs4).mono ?_
          rintro e w5 ⟨v5, rfl, hb5, hR5⟩
          go_wp2_with fail
          go_roundw
          case rel => exact ⟨v5, k + 1, rfl, by go_num, hlt, HQ3.out _ _ (by simpa using hb5), hB.trans (hG4.trans hR5)⟩
          case measure => simp [intOf]; omega
    · obtain rfl : k = fs.length := by omega
      rw [List.take_of_length_le (Nat.le_refl _)] at hb
      have hL : (l ++ 123 :: fieldsB false (fs.map fldPair)).length + [(125 : UInt8)].length ≤ 140737488355328 := by
        have := fieldsB_len fs hsm; simp only [List.length_append, List.length_cons, List.length_nil]; omega
      go_wp2_with (at_builtin; refine wpList_buf_lit rfl _ _ 43 rfl 5 Tryz.underlying43 u8J base _ _ rfl hb _ _ [125] rfl 1 1 rfl rfl hL hbs ?_)
      intro v2 w2 hb2 hB2
      go_wp2_with fail
      go_ret
      exact ⟨v2, rfl, by simpa [objB] using hb2, hB.trans hB2⟩
end Go.Proofs.YtdicoepjkngikaaGreatDoor

/-
 Contracts of package json: the fields of a job, a node, a lease.
-/
set_option linter.unusedVariables false
set_option linter.unusedSimpArgs false
namespace Go.Proofs.YtdicoepjkngikaaGreatDoor
open Go.RowKit
def fldsJ (a : Addr) (j : JobD) : List FldP := [⟨nName, .txt j.name, a⟩, ⟨nPrio, .num j.prio, a.add 1⟩, ⟨nNeed, .num j.need, a.add 2⟩, ⟨nTries, .num j.tries, a.add 3⟩, ⟨nTag, .txt j.tag, a.add 4⟩]
def fldsN (a : Addr) (n : NodeD) : List FldP := [⟨nName, .txt n.name, a⟩, ⟨nRoom, .num n.room, a.add 1⟩, ⟨nZone, .txt n.zone, a.add 2⟩]
def fldsL (a : Addr) (l : LeaseD) : List FldP := [⟨nJob, .txt l.job, a⟩, ⟨nNode, .txt l.node, a.add 1⟩, ⟨nUntil, .num l.till, a.add 2⟩]
set_option maxHeartbeats 8000000 in
set_option maxRecDepth 100000 in
theorem jobFields_any (a : Addr) (j : JobD) (w : World) :
    Calls Tryz.prog 27 #[.pointer (some a)] w fun e w' => ∃ g cs, e = .returned (.slice (some ⟨g, 0, none⟩) 5 5) ∧ Blk w' g 109 cs ∧ cs.toList = ((fldsJ a j).map fldRow).flatten ∧ w.heap.size ≤ g ∧ Below w.heap.size w w' := by
  go_enter Tryz.func27, Tryz.ntmps27
  go_wp2_with fail
  go_big_region
  go_wp2_with fail
  go_ret
  exact ⟨w.heap.size, _, rfl, (Blk.new w _ _).drew, rfl, Nat.le_refl _, ((Below.refl _ _).alloc (Nat.le_refl _) _).drew⟩
set_option maxHeartbeats 8000000 in
set_option maxRecDepth 100000 in
theorem nodeFields_any (a : Addr) (n : NodeD) (w : World) :
    Calls Tryz.prog 29 #[.pointer (some a)] w fun e w' => ∃ g cs, e = .returned (.slice (some ⟨g, 0, none⟩) 3 3) ∧ Blk w' g 109 cs ∧ cs.toList = ((fldsN a n).map fldRow).flatten ∧ w.heap.size ≤ g ∧ Below w.heap.size w w' := by
  go_enter Tryz.func29, Tryz.ntmps29
  go_wp2_with fail
  go_big_region
  go_wp2_with fail
  go_ret
  exact ⟨w.heap.size, _, rfl, (Blk.new w _ _).drew, rfl, Nat.le_refl _, ((Below.refl _ _).alloc (Nat.le_refl _) _).drew⟩
set_option maxHeartbeats 8000000 in
set_option maxRecDepth 100000 in
theorem leaseFields_any (a : Addr) (l : LeaseD) (w : World) :
    Calls Tryz.prog 31 #[.pointer (some a)] w fun e w' => ∃ g cs, e = .returned (.slice (some ⟨g, 0, none⟩) 3 3) ∧ Blk w' g 109 cs ∧ cs.toList = ((fldsL a l).map fldRow).flatten ∧ w.heap.size ≤ g ∧ Below w.heap.size w w' := by
  go_enter Tryz.func31, Tryz.ntmps31
  go_wp2_with fail
  go_big_region
  go_wp2_with fail
  go_ret
  exact ⟨w.heap.size, _, rfl, (Blk.new w _ _).drew, rfl, Nat.le_refl _, ((Below.refl _ _).alloc (Nat.le_refl _) _).drew⟩
end Go.Proofs.YtdicoepjkngikaaGreatDoor

/-
 Contracts of package json: rows printed.
-/
set_option linter.unusedVariables false
set_option linter.unusedSimpArgs false
namespace Go.Proofs.YtdicoepjkngikaaGreatDoor
open Go.RowKit
def smJ (x : JobD) : Prop := x.name.size ≤ 16 ∧ x.tag.size ≤ 16 ∧ (-9223372036854775808 ≤ x.prio ∧ x.prio ≤ 9223372036854775807) ∧ (-9223372036854775808 ≤ x.need ∧ x.need ≤ 9223372036854775807) ∧ (-9223372036854775808 ≤ x.tries ∧ x.tries ≤ 9223372036854775807)
def smN (x : NodeD) : Prop := x.name.size ≤ 16 ∧ x.zone.size ≤ 16 ∧ (-9223372036854775808 ≤ x.room ∧ x.room ≤ 9223372036854775807)
def smL (x : LeaseD) : Prop := x.job.size ≤ 16 ∧ x.node.size ≤ 16 ∧ (-9223372036854775808 ≤ x.till ∧ x.till ≤ 9223372036854775807)
theorem txt_small {n s : ByteArray} (p : Addr) (hn : n.size ≤ 16) (hs : s.size ≤ 16) : smallF ⟨n, .txt s, p⟩ := ⟨hn, trivial, fun t h => by injection h with h; subst h; exact hs⟩
theorem num_small {n : ByteArray} {k : Int} (p : Addr) (hn : n.size ≤ 16) (hk : -9223372036854775808 ≤ k ∧ k ≤ 9223372036854775807) : smallF ⟨n, .num k, p⟩ := ⟨hn, hk, fun t h => by cases h⟩
theorem smallJ {x : JobD} (h : smJ x) (a : Addr) : ∀ f ∈ fldsJ a x, smallF f := by
  intro f hf; simp only [fldsJ, List.mem_cons, List.not_mem_nil, or_false] at hf
  rcases hf with rfl | rfl | rfl | rfl | rfl
  · exact txt_small _ (by decide) h.1
  · exact num_small _ (by decide) h.2.2.1
  · exact num_small _ (by decide) h.2.2.2.1
  · exact num_small _ (by decide) h.2.2.2.2
  · exact txt_small _ (by decide) h.2.1
theorem smallN {x : NodeD} (h : smN x) (a : Addr) : ∀ f ∈ fldsN a x, smallF f := by
  intro f hf; simp only [fldsN, List.mem_cons, List.not_mem_nil, or_false] at hf
  rcases hf with rfl | rfl | rfl
  · exact txt_small _ (by decide) h.1
  · exact num_small _ (by decide) h.2.2
  · exact txt_small _ (by decide) h.2.1
theorem smallL {x : LeaseD} (h : smL x) (a : Addr) : ∀ f ∈ fldsL a x, smallF f := by
  intro f hf; simp only [fldsL, List.mem_cons, List.not_mem_nil, or_false] at hf
  rcases hf with rfl | rfl | rfl
  · exact txt_small _ (by decide) h.1
  · exact txt_small _ (by decide) h.2.1
  · exact num_small _ (by decide) h.2.2
theorem add_zero_ (a : Addr) : a.add 0 = a := by unfold Addr.add; rw [if_pos rfl]
theorem valsJ {w : World} {a : Addr} {x : JobD} {B : Nat} (h : At w a (rowJ x)) (hb : a.block < B) : ∀ f ∈ fldsJ a x, w.cell? f.p = some f.v.val ∧ f.p.block < B := by
  intro f hf; simp only [fldsJ, List.mem_cons, List.not_mem_nil, or_false] at hf
  rcases hf with rfl | rfl | rfl | rfl | rfl
  · have := h 0 _ rfl; rw [add_zero_] at this; exact ⟨this, hb⟩
  · exact ⟨h 1 _ rfl, by rw [block_of_add]; exact hb⟩
  · exact ⟨h 2 _ rfl, by rw [block_of_add]; exact hb⟩
  · exact ⟨h 3 _ rfl, by rw [block_of_add]; exact hb⟩
  · exact ⟨h 4 _ rfl, by rw [block_of_add]; exact hb⟩
theorem valsN {w : World} {a : Addr} {x : NodeD} {B : Nat} (h : At w a (rowN x)) (hb : a.block < B) : ∀ f ∈ fldsN a x, w.cell? f.p = some f.v.val ∧ f.p.block < B := by
  intro f hf; simp only [fldsN, List.mem_cons, List.not_mem_nil, or_false] at hf
  rcases hf with rfl | rfl | rfl
  · have := h 0 _ rfl; rw [add_zero_] at this; exact ⟨this, hb⟩
  · exact ⟨h 1 _ rfl, by rw [block_of_add]; exact hb⟩
  · exact ⟨h 2 _ rfl, by rw [block_of_add]; exact hb⟩
theorem valsL {w : World} {a : Addr} {x : LeaseD} {B : Nat} (h : At w a (rowL x)) (hb : a.block < B) : ∀ f ∈ fldsL a x, w.cell? f.p = some f.v.val ∧ f.p.block < B := by
  intro f hf; simp only [fldsL, List.mem_cons, List.not_mem_nil, or_false] at hf
  rcases hf with rfl | rfl | rfl
  · have := h 0 _ rfl; rw [add_zero_] at this; exact ⟨this, hb⟩
  · exact ⟨h 1 _ rfl, by rw [block_of_add]; exact hb⟩
  · exact ⟨h 2 _ rfl, by rw [block_of_add]; exact hb⟩
theorem rowsJ_snoc (l : List (List UInt8)) (x : List UInt8) : rowsJ false (l ++ [x]) = rowsJ false l ++ ((if 0 < l.length then [44] else []) ++ x) := by
  have h : ∀ (c : Bool) (l : List (List UInt8)), rowsJ c (l ++ [x]) = rowsJ c l ++ ((if c = true ∨ 0 < l.length then [44] else []) ++ x) := by
    intro c l
    induction l generalizing c with
    | nil => cases c <;> simp [rowsJ]
    | cons y l ih => rw [List.cons_append]; simp only [rowsJ]; rw [ih true]; simp
  have := h false l
  simpa using this
theorem objB_len (fs : List FldP) (hn : fs.length ≤ 5) (h : ∀ f ∈ fs, smallF f) : (objB (fs.map fldPair)).length ≤ 1107 := by
  have := fieldsB_len fs h
  unfold objB; simp only [List.length_cons, List.length_append, List.length_nil]; omega
theorem Buf.below {U : TypeId} {w w' : World} {base : Nat} {v : Value} {l : List UInt8} (h : Buf U w base v l) (hb : Below w.heap.size w w') : Buf U w' base v l :=
  World.ownsRow.kept (row := none) h ⟨hb.os, hb.tape, hb.output, hb.size, fun k hk _ => hb.block k hk⟩ (Classical.em _)
theorem rowsJ_len2 (ls : List (List UInt8)) (h : ∀ x ∈ ls, x.length ≤ 1107) : (rowsJ false ls).length ≤ 1108 * ls.length := by
  have g : ∀ c, (rowsJ c ls).length ≤ 1108 * ls.length := by
    induction ls with
    | nil => intro c; simp [rowsJ]
    | cons x l ih =>
      intro c
      have h1 := ih (fun y hy => h y (by simp [hy])) true
      have h2 := h x (by simp)
      have h3 : (if c = true then [(44 : UInt8)] else []).length ≤ 1 := by cases c <;> simp
      show ((if c = true then [44] else []) ++ (x ++ rowsJ true l)).length ≤ _
      simp only [List.length_append, List.length_cons] at *
      omega
  exact g false
set_option maxHeartbeats 8000000 in
set_option maxRecDepth 100000 in
theorem arrayJ_any (base : Nat) (v : Value) (l : List UInt8) (name : ByteArray) (rows : List JobD) (p : Option Addr) (c : Nat) (w : World) (hbuf : Buf 5 w base v l) (hbase : base ≤ w.heap.size) (hel : Elts w base 5 p (rows.map rowJ))
    (hsm : ∀ x ∈ rows, smJ x) (hn : rows.length ≤ 40) (hnm : name.size ≤ 16) (hl : l.length + 60000 ≤ 140737488355328) (hP : LibP base w) :
    Calls Tryz.prog 47 #[v, .string name, .slice p rows.length c, .func (.func 27) #[] #[]] w fun e w' => ∃ v', e = .returned v' ∧ Buf 5 w' base v' (l ++ arrB name ((rows.map fvJ).map objB)) ∧ Gr 5 base w w' := by
  have hql := quoteL_len name.data.toList
  rw [bl_len] at hql
  have hen : ∀ args W, (callFunc 27 args).run Tryz.prog W = .ok (.enter 27 args) W := fun args W => by kernel_rfl
  go_enter Tryz.func47, Tryz.ntmps47
  go_wp2_with (at_builtin; refine wpList_buf_lit rfl _ _ 43 rfl 5 Tryz.underlying43 u8J base _ l rfl hbuf _ _ [44] rfl 1 1 rfl rfl (by simp only [List.length_append, List.length_cons, List.length_nil]; omega) hbase ?_)
  intro v1 w1 hb1 hB1
  have hbs1 := Nat.le_trans hbase hB1.size
  go_wp2_with fail
  refine (quote_any w1.heap.size (.slice none 0 0) [] name w1 (by simp; omega) (Buf.nil _ _ _) (Nat.le_refl _)).mono ?_
  rintro e w2 ⟨q, rfl, hbq, hR2⟩
  rw [List.nil_append] at hbq
  have hb2 := hb1.below hR2.1
  have hB2 := hB1.trans (Gr.of_new hbs1 hR2.1)
  have hbs2 := Nat.le_trans hbase hB2.size
  go_wp2_with (at_builtin; refine wpList_buf_buf rfl _ _ 43 rfl 5 Tryz.underlying43 u8J base _ _ rfl hb2 _ _ _ rfl hbq (by simp only [List.length_append, List.length_cons, List.length_nil]; omega) hbs2 ?_)
  intro v3 w3 hb3 hR3
  have hB3 := hB2.trans hR3
  have hbs3 := Nat.le_trans hbase hB3.size
  go_wp2_with (at_builtin; refine wpList_buf_lit rfl _ _ 43 rfl 5 Tryz.underlying43 u8J base _ _ rfl hb3 _ _ [58, 91] rfl 2 2 rfl rfl (by simp only [List.length_append, List.length_cons, List.length_nil]; omega) hbs3 ?_)
  intro v4 w4 hb4 hR4
  have hB4 := hB3.trans hR4
  go_wp2_with fail
  clear hb1 hB1 hbs1 hbq hR2 hb2 hB2 hbs2 hb3 hR3 hB3 hbs3 hR4
  have hlN : (l ++ 44 :: (quoteL name.data.toList ++ [58, 91])).length + 50000 ≤ 140737488355328 := by simp only [List.length_append, List.length_cons, List.length_nil]; omega
  have hfin : ∀ W v', Buf 5 W base v' ((l ++ 44 :: (quoteL name.data.toList ++ [58, 91])) ++ (rowsJ false ((rows.map fvJ).map objB) ++ [93])) → Buf 5 W base v' (l ++ arrB name ((rows.map fvJ).map objB)) := by intro W v' h; simpa [arrB] using h
  have HF := Lib.hid hfin
  have hb4 : Buf 5 w4 base v4 (l ++ 44 :: (quoteL name.data.toList ++ [58, 91])) := by simpa using hb4
  generalize l ++ 44 :: (quoteL name.data.toList ++ [58, 91]) = l2 at *
  clear hfin hbuf hl hql hnm
  go_loopw [0, 20] (fun b i wr => ∃ (v' : Value) (k : Nat), b = v' ∧ i = .int .i64 k ∧ k ≤ rows.length ∧ Buf 5 wr base v' (l2 ++ rowsJ false (((rows.take k).map fvJ).map objB)) ∧ Gr 5 base w wr) (fun _ i _ => rows.length - (intOf i).toNat)
  case atStart => exact ⟨v4, 0, rfl, rfl, Nat.zero_le _, by simpa [rowsJ] using hb4, hB4⟩
  case round =>
    obtain ⟨v', k, rfl, rfl, hk, hb, hB⟩ := hrel
    have hbs := Nat.le_trans hbase hB.1.size
    have hsz : ∀ y ∈ (rows.map fvJ).map objB, y.length ≤ 1107 := by
      intro y hy
      obtain ⟨z, hz, rfl⟩ := List.mem_map.1 hy
      obtain ⟨x, hx, rfl⟩ := List.mem_map.1 hz
      exact objB_len (fldsJ ⟨0, 0, none⟩ x) (show (5 : Nat) ≤ 5 by decide) (smallJ (hsm x hx) _)
    have hfl := rowsJ_len2 (((rows.take k).map fvJ).map objB) (fun y hy => hsz y (by simp only [List.map_take] at hy; exact List.mem_of_mem_take hy))
    have hkl : (((rows.take k).map fvJ).map objB).length = k := by simp; omega
    rw [hkl] at hfl
    by_cases hlt : k < rows.length
    · have hx : rows[k]? = some rows[k] := List.getElem?_eq_getElem hlt
      have hq := rowsJ_snoc (((rows.take k).map fvJ).map objB) (objB (fvJ rows[k]))
      have hq2 : ((rows.take (k + 1)).map fvJ).map objB = ((rows.take k).map fvJ).map objB ++ [objB (fvJ rows[k])] := by rw [List.take_succ_eq_append_getElem hlt, List.map_append, List.map_append]; rfl
      rw [← hq2, hkl] at hq
      have hsx := hsm rows[k] (List.getElem_mem hlt)
      obtain ⟨a, rfl, hab, _, hat⟩ := hel.at_ (k := k) (r := rowJ rows[k]) (by rw [List.getElem?_map, hx]; rfl)
      have hAt : ∀ W, Gr 5 base wr W → At W (a.add (k * 5)) (rowJ rows[k]) := fun W hW => hat.below (hB.trans hW).1 (by rw [block_of_add]; exact hab)
      have hPr := hP.below hB.1
      have hQ : ∀ W v2, Buf 5 W base v2 ((l2 ++ rowsJ false (((rows.take k).map fvJ).map objB)) ++ ((if 0 < k then [44] else []) ++ objB (fvJ rows[k]))) → Buf 5 W base v2 (l2 ++ rowsJ false (((rows.take (k + 1)).map fvJ).map objB)) := by
        intro W v2 h; rw [hq]; simpa using h
      have HQ := Lib.hid hQ
      have hLN : (l2 ++ rowsJ false (((rows.take k).map fvJ).map objB)).length + 5000 ≤ 140737488355328 := by simp only [List.length_append]; omega
      clear hQ hq hq2 hx hsm hsz hfl hkl hel hP hat HF
      generalize l2 ++ rowsJ false (((rows.take k).map fvJ).map objB) = L at *
      generalize rows[k] = x at *
      rcases Nat.eq_zero_or_pos k with h0 | h0
      · have hd : decide (0 < k) = false := by simp [h0]
        have hQ3 := HQ.out
        rw [if_neg (by omega), List.nil_append] at hQ3
        have HQ3 := Lib.hid hQ3
        clear hQ3 HQ h0
        go_upto_region 7 with fail
        obtain ⟨v2, hv2⟩ : ∃ v2, v2 = u0 := ⟨_, rfl⟩
        obtain ⟨w2, hw2⟩ : ∃ w2, w2 = wr := ⟨_, rfl⟩
        subst hv2
        subst hw2
        have hb2 : Buf 5 w2 base v2 L := hb
        have hL2 : L.length + 4500 ≤ 140737488355328 := by omega
        have hG2 : Gr 5 base w2 w2 := Gr.refl _ _ _
        clear hb hLN hd
        generalize L = L2 at *
        focus
          have hbs2 := Nat.le_trans hbs hG2.size
          go_wp2_with fail
          refine (jobFields_any (a.add (k * 5)) x w2).mono ?_
          rintro e w3 ⟨g, cs, rfl, bg, hcs, hg, hB3⟩
          have hb3 := hb2.below hB3
          have hG3 := hG2.trans (Gr.of_new hbs2 hB3)
          have hbs3 := Nat.le_trans hbs hG3.size
          go_wp2_with fail
          refine (object_any base v2 L2 (fldsJ (a.add (k * 5)) x) g 5 cs w3 hb3 hbs3 bg hcs (valsJ (hAt w3 hG3) (by rw [block_of_add]; exact hab)) (smallJ hsx _) (show (5 : Nat) ≤ 5 by decide) (by omega) (hPr.below hG3.1)).mono ?_
          rintro e w5 ⟨v5, rfl, hb5, hR5⟩
          go_wp2_with fail
          go_roundw
          case rel => exact ⟨v5, k + 1, rfl, by go_num, hlt, HQ3.out _ _ hb5, hB.trans (hG3.trans hR5)⟩
          case measure => simp [intOf]; omega
      · have hd : decide (0 < k) = true := by simp [h0]
        have hQ3 := HQ.out
        rw [if_pos h0, ← List.append_assoc] at hQ3
        have HQ3 := Lib.hid hQ3
        clear hQ3 HQ h0
        go_upto_region 7 with (at_builtin; refine wpList_buf_lit rfl _ _ 43 rfl 5 Tryz.underlying43 u8J base _ L rfl hb _ _ [44] rfl 1 1 rfl rfl (by simp only [List.length_append, List.length_cons, List.length_nil]; omega) hbs ?_; intro v2 w2 hb2 hG2)
        have hL2 : (L ++ [(44 : UInt8)]).length + 4500 ≤ 140737488355328 := by simp only [List.length_append, List.length_cons, List.length_nil]; omega
        clear hb hLN hd
        generalize L ++ [(44 : UInt8)] = L2 at *
        focus
          have hbs2 := Nat.le_trans hbs hG2.size
          go_wp2_with fail
          refine (jobFields_any (a.add (k * 5)) x w2).mono ?_
          rintro e w3 ⟨g, cs, rfl, bg, hcs, hg, hB3⟩
          have hb3 := hb2.below hB3
          have hG3 := hG2.trans (Gr.of_new hbs2 hB3)
          have hbs3 := Nat.le_trans hbs hG3.size
          go_wp2_with fail
          refine (object_any base v2 L2 (fldsJ (a.add (k * 5)) x) g 5 cs w3 hb3 hbs3 bg hcs (valsJ (hAt w3 hG3) (by rw [block_of_add]; exact hab)) (smallJ hsx _) (show (5 : Nat) ≤ 5 by decide) (by omega) (hPr.below hG3.1)).mono ?_
          rintro e w5 ⟨v5, rfl, hb5, hR5⟩
          go_wp2_with fail
          go_roundw
          case rel => exact ⟨v5, k + 1, rfl, by go_num, hlt, HQ3.out _ _ hb5, hB.trans (hG3.trans hR5)⟩
          case measure => simp [intOf]; omega
    · obtain rfl : k = rows.length := by omega
      rw [List.take_of_length_le (Nat.le_refl _)] at hb hfl
      have hL : (l2 ++ rowsJ false ((rows.map fvJ).map objB)).length + [(93 : UInt8)].length ≤ 140737488355328 := by
        simp only [List.length_append, List.length_cons, List.length_nil]; omega
      clear hfl hkl hsz
      go_wp2_with (at_builtin; refine wpList_buf_lit rfl _ _ 43 rfl 5 Tryz.underlying43 u8J base _ _ rfl hb _ _ [93] rfl 1 1 rfl rfl hL hbs ?_)
      intro v2 w2 hb2 hB2
      go_wp2_with fail
      go_ret
      exact ⟨v2, rfl, HF.out _ _ (by simpa using hb2), hB.trans hB2⟩
set_option maxHeartbeats 8000000 in
set_option maxRecDepth 100000 in
theorem arrayN_any (base : Nat) (v : Value) (l : List UInt8) (name : ByteArray) (rows : List NodeD) (p : Option Addr) (c : Nat) (w : World) (hbuf : Buf 5 w base v l) (hbase : base ≤ w.heap.size) (hel : Elts w base 3 p (rows.map rowN))
    (hsm : ∀ x ∈ rows, smN x) (hn : rows.length ≤ 40) (hnm : name.size ≤ 16) (hl : l.length + 60000 ≤ 140737488355328) (hP : LibP base w) :
    Calls Tryz.prog 48 #[v, .string name, .slice p rows.length c, .func (.func 29) #[] #[]] w fun e w' => ∃ v', e = .returned v' ∧ Buf 5 w' base v' (l ++ arrB name ((rows.map fvN).map objB)) ∧ Gr 5 base w w' := by
  have hql := quoteL_len name.data.toList
  rw [bl_len] at hql
  have hen : ∀ args W, (callFunc 29 args).run Tryz.prog W = .ok (.enter 29 args) W := fun args W => by kernel_rfl
  go_enter Tryz.func48, Tryz.ntmps48
  go_wp2_with (at_builtin; refine wpList_buf_lit rfl _ _ 43 rfl 5 Tryz.underlying43 u8J base _ l rfl hbuf _ _ [44] rfl 1 1 rfl rfl (by simp only [List.length_append, List.length_cons, List.length_nil]; omega) hbase ?_)
  intro v1 w1 hb1 hB1
  have hbs1 := Nat.le_trans hbase hB1.size
  go_wp2_with fail
  refine (quote_any w1.heap.size (.slice none 0 0) [] name w1 (by simp; omega) (Buf.nil _ _ _) (Nat.le_refl _)).mono ?_
  rintro e w2 ⟨q, rfl, hbq, hR2⟩
  rw [List.nil_append] at hbq
  have hb2 := hb1.below hR2.1
  have hB2 := hB1.trans (Gr.of_new hbs1 hR2.1)
  have hbs2 := Nat.le_trans hbase hB2.size
  go_wp2_with (at_builtin; refine wpList_buf_buf rfl _ _ 43 rfl 5 Tryz.underlying43 u8J base _ _ rfl hb2 _ _ _ rfl hbq (by simp only [List.length_append, List.length_cons, List.length_nil]; omega) hbs2 ?_)
  intro v3 w3 hb3 hR3
  have hB3 := hB2.trans hR3
  have hbs3 := Nat.le_trans hbase hB3.size
  go_wp2_with (at_builtin; refine wpList_buf_lit rfl _ _ 43 rfl 5 Tryz.underlying43 u8J base _ _ rfl hb3 _ _ [58, 91] rfl 2 2 rfl rfl (by simp only [List.length_append, List.length_cons, List.length_nil]; omega) hbs3 ?_)
  intro v4 w4 hb4 hR4
  have hB4 := hB3.trans hR4
  go_wp2_with fail
  clear hb1 hB1 hbs1 hbq hR2 hb2 hB2 hbs2 hb3 hR3 hB3 hbs3 hR4
  have hlN : (l ++ 44 :: (quoteL name.data.toList ++ [58, 91])).length + 50000 ≤ 140737488355328 := by simp only [List.length_append, List.length_cons, List.length_nil]; omega
  have hfin : ∀ W v', Buf 5 W base v' ((l ++ 44 :: (quoteL name.data.toList ++ [58, 91])) ++ (rowsJ false ((rows.map fvN).map objB) ++ [93])) → Buf 5 W base v' (l ++ arrB name ((rows.map fvN).map objB)) := by intro W v' h; simpa [arrB] using h
  have HF := Lib.hid hfin
  have hb4 : Buf 5 w4 base v4 (l ++ 44 :: (quoteL name.data.toList ++ [58, 91])) := by simpa using hb4
  generalize l ++ 44 :: (quoteL name.data.toList ++ [58, 91]) = l2 at *
  clear hfin hbuf hl hql hnm
  go_loopw [0, 20] (fun b i wr => ∃ (v' : Value) (k : Nat), b = v' ∧ i = .int .i64 k ∧ k ≤ rows.length ∧ Buf 5 wr base v' (l2 ++ rowsJ false (((rows.take k).map fvN).map objB)) ∧ Gr 5 base w wr) (fun _ i _ => rows.length - (intOf i).toNat)
  case atStart => exact ⟨v4, 0, rfl, rfl, Nat.zero_le _, by simpa [rowsJ] using hb4, hB4⟩
  case round =>
    obtain ⟨v', k, rfl, rfl, hk, hb, hB⟩ := hrel
    have hbs := Nat.le_trans hbase hB.1.size
    have hsz : ∀ y ∈ (rows.map fvN).map objB, y.length ≤ 1107 := by
      intro y hy
      obtain ⟨z, hz, rfl⟩ := List.mem_map.1 hy
      obtain ⟨x, hx, rfl⟩ := List.mem_map.1 hz
      exact objB_len (fldsN ⟨0, 0, none⟩ x) (show (3 : Nat) ≤ 5 by decide) (smallN (hsm x hx) _)
    have hfl := rowsJ_len2 (((rows.take k).map fvN).map objB) (fun y hy => hsz y (by simp only [List.map_take] at hy; exact List.mem_of_mem_take hy))
    have hkl : (((rows.take k).map fvN).map objB).length = k := by simp; omega
    rw [hkl] at hfl
    by_cases hlt : k < rows.length
    · have hx : rows[k]? = some rows[k] := List.getElem?_eq_getElem hlt
      have hq := rowsJ_snoc (((rows.take k).map fvN).map objB) (objB (fvN rows[k]))
      have hq2 : ((rows.take (k + 1)).map fvN).map objB = ((rows.take k).map fvN).map objB ++ [objB (fvN rows[k])] := by rw [List.take_succ_eq_append_getElem hlt, List.map_append, List.map_append]; rfl
      rw [← hq2, hkl] at hq
      have hsx := hsm rows[k] (List.getElem_mem hlt)
      obtain ⟨a, rfl, hab, _, hat⟩ := hel.at_ (k := k) (r := rowN rows[k]) (by rw [List.getElem?_map, hx]; rfl)
      have hAt : ∀ W, Gr 5 base wr W → At W (a.add (k * 3)) (rowN rows[k]) := fun W hW => hat.below (hB.trans hW).1 (by rw [block_of_add]; exact hab)
      have hPr := hP.below hB.1
      have hQ : ∀ W v2, Buf 5 W base v2 ((l2 ++ rowsJ false (((rows.take k).map fvN).map objB)) ++ ((if 0 < k then [44] else []) ++ objB (fvN rows[k]))) → Buf 5 W base v2 (l2 ++ rowsJ false (((rows.take (k + 1)).map fvN).map objB)) := by
        intro W v2 h; rw [hq]; simpa using h
      have HQ := Lib.hid hQ
      have hLN : (l2 ++ rowsJ false (((rows.take k).map fvN).map objB)).length + 5000 ≤ 140737488355328 := by simp only [List.length_append]; omega
      clear hQ hq hq2 hx hsm hsz hfl hkl hel hP hat HF
      generalize l2 ++ rowsJ false (((rows.take k).map fvN).map objB) = L at *
      generalize rows[k] = x at *
      rcases Nat.eq_zero_or_pos k with h0 | h0
      · have hd : decide (0 < k) = false := by simp [h0]
        have hQ3 := HQ.out
        rw [if_neg (by omega), List.nil_append] at hQ3
        have HQ3 := Lib.hid hQ3
        clear hQ3 HQ h0
        go_upto_region 7 with fail
        obtain ⟨v2, hv2⟩ : ∃ v2, v2 = u0 := ⟨_, rfl⟩
        obtain ⟨w2, hw2⟩ : ∃ w2, w2 = wr := ⟨_, rfl⟩
        subst hv2
        subst hw2
        have hb2 : Buf 5 w2 base v2 L := hb
        have hL2 : L.length + 4500 ≤ 140737488355328 := by omega
        have hG2 : Gr 5 base w2 w2 := Gr.refl _ _ _
        clear hb hLN hd
        generalize L = L2 at *
        focus
          have hbs2 := Nat.le_trans hbs hG2.size
          go_wp2_with fail
          refine (nodeFields_any (a.add (k * 3)) x w2).mono ?_
          rintro e w3 ⟨g, cs, rfl, bg, hcs, hg, hB3⟩
          have hb3 := hb2.below hB3
          have hG3 := hG2.trans (Gr.of_new hbs2 hB3)
          have hbs3 := Nat.le_trans hbs hG3.size
          go_wp2_with fail
          refine (object_any base v2 L2 (fldsN (a.add (k * 3)) x) g 3 cs w3 hb3 hbs3 bg hcs (valsN (hAt w3 hG3) (by rw [block_of_add]; exact hab)) (smallN hsx _) (show (3 : Nat) ≤ 5 by decide) (by omega) (hPr.below hG3.1)).mono ?_
          rintro e w5 ⟨v5, rfl, hb5, hR5⟩
          go_wp2_with fail
          go_roundw
          case rel => exact ⟨v5, k + 1, rfl, by go_num, hlt, HQ3.out _ _ hb5, hB.trans (hG3.trans hR5)⟩
          case measure => simp [intOf]; omega
      · have hd : decide (0 < k) = true := by simp [h0]
        have hQ3 := HQ.out
        rw [if_pos h0, ← List.append_assoc] at hQ3
        have HQ3 := Lib.hid hQ3
        clear hQ3 HQ h0
        go_upto_region 7 with (at_builtin; refine wpList_buf_lit rfl _ _ 43 rfl 5 Tryz.underlying43 u8J base _ L rfl hb _ _ [44] rfl 1 1 rfl rfl (by simp only [List.length_append, List.length_cons, List.length_nil]; omega) hbs ?_; intro v2 w2 hb2 hG2)
        have hL2 : (L ++ [(44 : UInt8)]).length + 4500 ≤ 140737488355328 := by simp only [List.length_append, List.length_cons, List.length_nil]; omega
        clear hb hLN hd
        generalize L ++ [(44 : UInt8)] = L2 at *
        focus
          have hbs2 := Nat.le_trans hbs hG2.size
          go_wp2_with fail
          refine (nodeFields_any (a.add (k * 3)) x w2).mono ?_
          rintro e w3 ⟨g, cs, rfl, bg, hcs, hg, hB3⟩
          have hb3 := hb2.below hB3
          have hG3 := hG2.trans (Gr.of_new hbs2 hB3)
          have hbs3 := Nat.le_trans hbs hG3.size
          go_wp2_with fail
          refine (object_any base v2 L2 (fldsN (a.add (k * 3)) x) g 3 cs w3 hb3 hbs3 bg hcs (valsN (hAt w3 hG3) (by rw [block_of_add]; exact hab)) (smallN hsx _) (show (3 : Nat) ≤ 5 by decide) (by omega) (hPr.below hG3.1)).mono ?_
          rintro e w5 ⟨v5, rfl, hb5, hR5⟩
          go_wp2_with fail
          go_roundw
          case rel => exact ⟨v5, k + 1, rfl, by go_num, hlt, HQ3.out _ _ hb5, hB.trans (hG3.trans hR5)⟩
          case measure => simp [intOf]; omega
    · obtain rfl : k = rows.length := by omega
      rw [List.take_of_length_le (Nat.le_refl _)] at hb hfl
      have hL : (l2 ++ rowsJ false ((rows.map fvN).map objB)).length + [(93 : UInt8)].length ≤ 140737488355328 := by
        simp only [List.length_append, List.length_cons, List.length_nil]; omega
      clear hfl hkl hsz
      go_wp2_with (at_builtin; refine wpList_buf_lit rfl _ _ 43 rfl 5 Tryz.underlying43 u8J base _ _ rfl hb _ _ [93] rfl 1 1 rfl rfl hL hbs ?_)
      intro v2 w2 hb2 hB2
      go_wp2_with fail
      go_ret
      exact ⟨v2, rfl, HF.out _ _ (by simpa using hb2), hB.trans hB2⟩
set_option maxHeartbeats 8000000 in
set_option maxRecDepth 100000 in
theorem arrayL_any (base : Nat) (v : Value) (l : List UInt8) (name : ByteArray) (rows : List LeaseD) (p : Option Addr) (c : Nat) (w : World) (hbuf : Buf 5 w base v l) (hbase : base ≤ w.heap.size) (hel : Elts w base 3 p (rows.map rowL))
    (hsm : ∀ x ∈ rows, smL x) (hn : rows.length ≤ 40) (hnm : name.size ≤ 16) (hl : l.length + 60000 ≤ 140737488355328) (hP : LibP base w) :
    Calls Tryz.prog 49 #[v, .string name, .slice p rows.length c, .func (.func 31) #[] #[]] w fun e w' => ∃ v', e = .returned v' ∧ Buf 5 w' base v' (l ++ arrB name ((rows.map fvL).map objB)) ∧ Gr 5 base w w' := by
  have hql := quoteL_len name.data.toList
  rw [bl_len] at hql
  have hen : ∀ args W, (callFunc 31 args).run Tryz.prog W = .ok (.enter 31 args) W := fun args W => by kernel_rfl
  go_enter Tryz.func49, Tryz.ntmps49
  go_wp2_with (at_builtin; refine wpList_buf_lit rfl _ _ 43 rfl 5 Tryz.underlying43 u8J base _ l rfl hbuf _ _ [44] rfl 1 1 rfl rfl (by simp only [List.length_append, List.length_cons, List.length_nil]; omega) hbase ?_)
  intro v1 w1 hb1 hB1
  have hbs1 := Nat.le_trans hbase hB1.size
  go_wp2_with fail
  refine (quote_any w1.heap.size (.slice none 0 0) [] name w1 (by simp; omega) (Buf.nil _ _ _) (Nat.le_refl _)).mono ?_
  rintro e w2 ⟨q, rfl, hbq, hR2⟩
  rw [List.nil_append] at hbq
  have hb2 := hb1.below hR2.1
  have hB2 := hB1.trans (Gr.of_new hbs1 hR2.1)
  have hbs2 := Nat.le_trans hbase hB2.size
  go_wp2_with (at_builtin; refine wpList_buf_buf rfl _ _ 43 rfl 5 Tryz.underlying43 u8J base _ _ rfl hb2 _ _ _ rfl hbq (by simp only [List.length_append, List.length_cons, List.length_nil]; omega) hbs2 ?_)
  intro v3 w3 hb3 hR3
  have hB3 := hB2.trans hR3
  have hbs3 := Nat.le_trans hbase hB3.size
  go_wp2_with (at_builtin; refine wpList_buf_lit rfl _ _ 43 rfl 5 Tryz.underlying43 u8J base _ _ rfl hb3 _ _ [58, 91] rfl 2 2 rfl rfl (by simp only [List.length_append, List.length_cons, List.length_nil]; omega) hbs3 ?_)
  intro v4 w4 hb4 hR4
  have hB4 := hB3.trans hR4
  go_wp2_with fail
  clear hb1 hB1 hbs1 hbq hR2 hb2 hB2 hbs2 hb3 hR3 hB3 hbs3 hR4
  have hlN : (l ++ 44 :: (quoteL name.data.toList ++ [58, 91])).length + 50000 ≤ 140737488355328 := by simp only [List.length_append, List.length_cons, List.length_nil]; omega
  have hfin : ∀ W v', Buf 5 W base v' ((l ++ 44 :: (quoteL name.data.toList ++ [58, 91])) ++ (rowsJ false ((rows.map fvL).map objB) ++ [93])) → Buf 5 W base v' (l ++ arrB name ((rows.map fvL).map objB)) := by intro W v' h; simpa [arrB] using h
  have HF := Lib.hid hfin
  have hb4 : Buf 5 w4 base v4 (l ++ 44 :: (quoteL name.data.toList ++ [58, 91])) := by simpa using hb4
  generalize l ++ 44 :: (quoteL name.data.toList ++ [58, 91]) = l2 at *
  clear hfin hbuf hl hql hnm
  go_loopw [0, 20] (fun b i wr => ∃ (v' : Value) (k : Nat), b = v' ∧ i = .int .i64 k ∧ k ≤ rows.length ∧ Buf 5 wr base v' (l2 ++ rowsJ false (((rows.take k).map fvL).map objB)) ∧ Gr 5 base w wr) (fun _ i _ => rows.length - (intOf i).toNat)
  case atStart => exact ⟨v4, 0, rfl, rfl, Nat.zero_le _, by simpa [rowsJ] using hb4, hB4⟩
  case round =>
    obtain ⟨v', k, rfl, rfl, hk, hb, hB⟩ := hrel
    have hbs := Nat.le_trans hbase hB.1.size
    have hsz : ∀ y ∈ (rows.map fvL).map objB, y.length ≤ 1107 := by
      intro y hy
      obtain ⟨z, hz, rfl⟩ := List.mem_map.1 hy
      obtain ⟨x, hx, rfl⟩ := List.mem_map.1 hz
      exact objB_len (fldsL ⟨0, 0, none⟩ x) (show (3 : Nat) ≤ 5 by decide) (smallL (hsm x hx) _)
    have hfl := rowsJ_len2 (((rows.take k).map fvL).map objB) (fun y hy => hsz y (by simp only [List.map_take] at hy; exact List.mem_of_mem_take hy))
    have hkl : (((rows.take k).map fvL).map objB).length = k := by simp; omega
    rw [hkl] at hfl
    by_cases hlt : k < rows.length
    · have hx : rows[k]? = some rows[k] := List.getElem?_eq_getElem hlt
      have hq := rowsJ_snoc (((rows.take k).map fvL).map objB) (objB (fvL rows[k]))
      have hq2 : ((rows.take (k + 1)).map fvL).map objB = ((rows.take k).map fvL).map objB ++ [objB (fvL rows[k])] := by rw [List.take_succ_eq_append_getElem hlt, List.map_append, List.map_append]; rfl
      rw [← hq2, hkl] at hq
      have hsx := hsm rows[k] (List.getElem_mem hlt)
      obtain ⟨a, rfl, hab, _, hat⟩ := hel.at_ (k := k) (r := rowL rows[k]) (by rw [List.getElem?_map, hx]; rfl)
      have hAt : ∀ W, Gr 5 base wr W → At W (a.add (k * 3)) (rowL rows[k]) := fun W hW => hat.below (hB.trans hW).1 (by rw [block_of_add]; exact hab)
      have hPr := hP.below hB.1
      have hQ : ∀ W v2, Buf 5 W base v2 ((l2 ++ rowsJ false (((rows.take k).map fvL).map objB)) ++ ((if 0 < k then [44] else []) ++ objB (fvL rows[k]))) → Buf 5 W base v2 (l2 ++ rowsJ false (((rows.take (k + 1)).map fvL).map objB)) := by
        intro W v2 h; rw [hq]; simpa using h
      have HQ := Lib.hid hQ
      have hLN : (l2 ++ rowsJ false (((rows.take k).map fvL).map objB)).length + 5000 ≤ 140737488355328 := by simp only [List.length_append]; omega
      clear hQ hq hq2 hx hsm hsz hfl hkl hel hP hat HF
      generalize l2 ++ rowsJ false (((rows.take k).map fvL).map objB) = L at *
      generalize rows[k] = x at *
      rcases Nat.eq_zero_or_pos k with h0 | h0
      · have hd : decide (0 < k) = false := by simp [h0]
        have hQ3 := HQ.out
        rw [if_neg (by omega), List.nil_append] at hQ3
        have HQ3 := Lib.hid hQ3
        clear hQ3 HQ h0
        go_upto_region 7 with fail
        obtain ⟨v2, hv2⟩ : ∃ v2, v2 = u0 := ⟨_, rfl⟩
        obtain ⟨w2, hw2⟩ : ∃ w2, w2 = wr := ⟨_, rfl⟩
        subst hv2
        subst hw2
        have hb2 : Buf 5 w2 base v2 L := hb
        have hL2 : L.length + 4500 ≤ 140737488355328 := by omega
        have hG2 : Gr 5 base w2 w2 := Gr.refl _ _ _
        clear hb hLN hd
        generalize L = L2 at *
        focus
          have hbs2 := Nat.le_trans hbs hG2.size
          go_wp2_with fail
          refine (leaseFields_any (a.add (k * 3)) x w2).mono ?_
          rintro e w3 ⟨g, cs, rfl, bg, hcs, hg, hB3⟩
          have hb3 := hb2.below hB3
          have hG3 := hG2.trans (Gr.of_new hbs2 hB3)
          have hbs3 := Nat.le_trans hbs hG3.size
          go_wp2_with fail
          refine (object_any base v2 L2 (fldsL (a.add (k * 3)) x) g 3 cs w3 hb3 hbs3 bg hcs (valsL (hAt w3 hG3) (by rw [block_of_add]; exact hab)) (smallL hsx _) (show (3 : Nat) ≤ 5 by decide) (by omega) (hPr.below hG3.1)).mono ?_
          rintro e w5 ⟨v5, rfl, hb5, hR5⟩
          go_wp2_with fail
          go_roundw
          case rel => exact ⟨v5, k + 1, rfl, by go_num, hlt, HQ3.out _ _ hb5, hB.trans (hG3.trans hR5)⟩
          case measure => simp [intOf]; omega
      · have hd : decide (0 < k) = true := by simp [h0]
        have hQ3 := HQ.out
        rw [if_pos h0, ← List.append_assoc] at hQ3
        have HQ3 := Lib.hid hQ3
        clear hQ3 HQ h0
        go_upto_region 7 with (at_builtin; refine wpList_buf_lit rfl _ _ 43 rfl 5 Tryz.underlying43 u8J base _ L rfl hb _ _ [44] rfl 1 1 rfl rfl (by simp only [List.length_append, List.length_cons, List.length_nil]; omega) hbs ?_; intro v2 w2 hb2 hG2)
        have hL2 : (L ++ [(44 : UInt8)]).length + 4500 ≤ 140737488355328 := by simp only [List.length_append, List.length_cons, List.length_nil]; omega
        clear hb hLN hd
        generalize L ++ [(44 : UInt8)] = L2 at *
        focus
          have hbs2 := Nat.le_trans hbs hG2.size
          go_wp2_with fail
          refine (leaseFields_any (a.add (k * 3)) x w2).mono ?_
          rintro e w3 ⟨g, cs, rfl, bg, hcs, hg, hB3⟩
          have hb3 := hb2.below hB3
          have hG3 := hG2.trans (Gr.of_new hbs2 hB3)
          have hbs3 := Nat.le_trans hbs hG3.size
          go_wp2_with fail
          refine (object_any base v2 L2 (fldsL (a.add (k * 3)) x) g 3 cs w3 hb3 hbs3 bg hcs (valsL (hAt w3 hG3) (by rw [block_of_add]; exact hab)) (smallL hsx _) (show (3 : Nat) ≤ 5 by decide) (by omega) (hPr.below hG3.1)).mono ?_
          rintro e w5 ⟨v5, rfl, hb5, hR5⟩
          go_wp2_with fail
          go_roundw
          case rel => exact ⟨v5, k + 1, rfl, by go_num, hlt, HQ3.out _ _ hb5, hB.trans (hG3.trans hR5)⟩
          case measure => simp [intOf]; omega
    · obtain rfl : k = rows.length := by omega
      rw [List.take_of_length_le (Nat.le_refl _)] at hb hfl
      have hL : (l2 ++ rowsJ false ((rows.map fvL).map objB)).length + [(93 : UInt8)].length ≤ 140737488355328 := by
        simp only [List.length_append, List.length_cons, List.length_nil]; omega
      clear hfl hkl hsz
      go_wp2_with (at_builtin; refine wpList_buf_lit rfl _ _ 43 rfl 5 Tryz.underlying43 u8J base _ _ rfl hb _ _ [93] rfl 1 1 rfl rfl hL hbs ?_)
      intro v2 w2 hb2 hB2
      go_wp2_with fail
      go_ret
      exact ⟨v2, rfl, HF.out _ _ (by simpa using hb2), hB.trans hB2⟩
end Go.Proofs.YtdicoepjkngikaaGreatDoor
