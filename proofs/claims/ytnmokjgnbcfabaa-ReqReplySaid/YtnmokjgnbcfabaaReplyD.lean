/-
  The contract of req.ReadReply.
-/
import Derived.Test.YtnmokjgnbcfabaaReplyW
set_option linter.unusedVariables false
set_option linter.unusedSimpArgs false
namespace Go.Proofs.Ytnmokjgnbcfabaa
open Go.RowKit
theorem Blk.gr_ {w w' : World} {g b : Nat} {t : TypeId} {cs : Array Value} (h : Blk w g t cs) (hg : w.grownBy w' (some b)) (hne : g ≠ b) : Blk w' g t cs := (hg.block g h.lt (by intro h0; injection h0 with h0; exact hne h0)).trans h
theorem endE_zeroR {x : Nat} {l : List UInt8} (h : endE x l = 0) : x = 0 ∧ l = [] := by
  unfold endE at h
  by_cases h1 : x = 0
  · rw [if_neg (by simp [h1])] at h
    by_cases h2 : l = []
    · exact ⟨h1, h2⟩
    · rw [if_neg h2] at h; cases h
  · rw [if_pos h1] at h; exact absurd h h1
theorem decPR_end {l l' : List UInt8} {a : Int × Int} {y : Nat} (h : Step pReply l 0 a l' y) (he : endE y l' ≠ 0) : decPR l = (0, 0, endE y l') := by
  unfold decPR
  cases hp : pReply l with
  | bad z =>
    obtain rfl := (h.2.2 rfl).2 _ hp
    have := pReply_PP.err _ _ hp
    simp only []
    unfold endE; rw [if_pos this]
  | ok t r =>
    obtain ⟨rfl, rfl, rfl⟩ := (h.2.2 rfl).1 _ _ hp
    unfold endE at he ⊢
    by_cases hr : l' = []
    · rw [if_neg (by simp), if_pos hr] at he; exact absurd rfl he
    · simp only []
      rw [if_pos hr, if_neg (by simp), if_neg hr]
theorem decPR_read {l l' : List UInt8} {a : Int × Int} {y : Nat} (h : Step pReply l 0 a l' y) (he : endE y l' = 0) : decPR l = if replyOk a.1 a.2 = true then (a.1, a.2, 0) else (0, 0, 1) := by
  obtain ⟨rfl, rfl⟩ := endE_zeroR he
  have hp : pReply l = .ok a [] := by
    cases hp : pReply l with
    | bad z =>
      have h1 := (h.2.2 rfl).2 _ hp
      exact absurd h1.symm (pReply_PP.err _ _ hp)
    | ok t r =>
      obtain ⟨rfl, rfl, _⟩ := (h.2.2 rfl).1 _ _ hp
      rfl
  unfold decPR
  rw [hp]
  simp only []
  rw [if_neg (by simp)]
theorem zero_reply_lit (W : World) : (zeroValue 42).run Try.prog W = .ok (.agg #[Value.int .i64 0, Value.int .i64 0]) W := by kernel_rfl
theorem reply_size : (Try.prog.info? 42).map (·.size) = some 2 := by kernel_rfl
theorem one_r2 (a b : Int) : (#[Value.int .i64 a, Value.int .i64 b] : Array Value).all (·.oneCell') = true := by simp [Value.oneCell']
def RepPost (w : World) (r : Int × Int × Nat) (e : Ending) (w' : World) : Prop := e = .returned (.tuple #[.agg #[.int .i64 r.1, .int .i64 r.2.1], .int .i64 (r.2.2 : Int)]) ∧ Below w.heap.size w w'
set_option maxHeartbeats 4000000 in
set_option maxRecDepth 100000 in
theorem readReply_any (b : ByteArray) (w : World) :
    Calls Try.prog 13 #[.string b] w fun e w' => RepPost w (decPR b.data.toList) e w' := by
  have hzd := zero_reply_lit
  obtain ⟨l, rfl⟩ : ∃ l, b = bstr l := ⟨b.data.toList, (bstr_self b).symm⟩
  rw [bstr_list]
  have s1 : (w.alloc (.cells #[Value.int .i64 0, Value.int .i64 0] 42)).heap.size = w.heap.size + 1 := by simp
  have br3 : Blk ((w.alloc (.cells #[Value.int .i64 0, Value.int .i64 0] 42)).alloc (.cells #[.string (bstr l), .int .i64 0] 60)) w.heap.size 42 #[Value.int .i64 0, Value.int .i64 0] := (Blk.new w _ _).alloc _
  have rd3 : Rd ((w.alloc (.cells #[Value.int .i64 0, Value.int .i64 0] 42)).alloc (.cells #[.string (bstr l), .int .i64 0] 60)) (w.heap.size + 1) l 0 := by have := Blk.new (w.alloc (.cells #[Value.int .i64 0, Value.int .i64 0] 42)) 60 #[.string (bstr l), .int .i64 0]; rw [s1] at this; exact this
  have hB3 : Below w.heap.size w ((w.alloc (.cells #[Value.int .i64 0, Value.int .i64 0] 42)).alloc (.cells #[.string (bstr l), .int .i64 0] 60)) := ((Below.refl _ _).alloc (Nat.le_refl _) _).alloc (by omega) _
  clear s1
  go_enter Try.func13, Try.ntmps13
  go_wp2_with fail
  generalize (w.alloc (.cells #[Value.int .i64 0, Value.int .i64 0] 42)).alloc (.cells #[.string (bstr l), .int .i64 0] 60) = W3 at *
  refine (rNumber_any (w.heap.size + 1) 0 l W3 rd3).mono ?_
  rintro e w4 ⟨G4, n, l1, y1, rfl, R4, S4, _, _, hn⟩
  have br4 := br3.gr_ G4 (by omega)
  have hB4 : Below w.heap.size w w4 := hB3.grown G4 (by have := rd3.lt; omega) (fun k hk => by injection hk with hk; omega)
  have HS4 := Lib.hid S4
  clear S4 G4 br3 rd3 hB3
  go_wp2_with fail
  refine (rNumber_any (w.heap.size + 1) y1 l1 w4 R4).mono ?_
  rintro e w5 ⟨G5, m, l2, y2, rfl, R5, S5, _, _, hm⟩
  have br5 := br4.gr_ G5 (by omega)
  have hB5 : Below w.heap.size w w5 := hB4.grown G5 (by have := br4.lt; omega) (fun k hk => by injection hk with hk; omega)
  have HST := Lib.hid (show Step pReply l 0 ((n : Int), (m : Int)) l2 y2 from Step.seq (q := fun _ => pInt) HS4.out S5 pInt_PP.err)
  clear S5 G5 br4 R4 hB4 HS4
  have bd6 := Blk.new w5 42 #[Value.int .i64 (n : Int), Value.int .i64 (m : Int)]
  have br6 := br5.alloc (.cells #[Value.int .i64 (n : Int), Value.int .i64 (m : Int)] 42)
  have rd6 : Rd (w5.alloc (.cells #[Value.int .i64 (n : Int), Value.int .i64 (m : Int)] 42)) (w.heap.size + 1) l2 y2 := Blk.alloc R5 _
  have hB6 := hB5.alloc hB5.size (.cells #[Value.int .i64 (n : Int), Value.int .i64 (m : Int)] 42)
  have hg6 : w.heap.size + 1 < w5.heap.size := R5.lt
  clear br5 R5 hB5
  go_wp2_with (first | (refine wpList_store_new rfl _ _ _ rfl rfl _ _ #[Value.int .i64 (n : Int), Value.int .i64 (m : Int)] rfl reply_size rfl (one_r2 _ _) ?_))
  generalize w5.alloc (.cells #[Value.int .i64 (n : Int), Value.int .i64 (m : Int)] 42) = w6 at *
  generalize w5.heap.size = gd at *
  refine (rEnd_any (w.heap.size + 1) y2 l2 w6 rd6).mono ?_
  rintro e w7 ⟨G7, rfl⟩
  have br7 := br6.gr_ G7 (by omega)
  have bd7 := bd6.gr_ G7 (by omega)
  have hB7 : Below w.heap.size w w7 := hB6.grown G7 (by have := br6.lt; omega) (fun k hk => by injection hk with hk; omega)
  clear G7 br6 bd6 rd6 hB6
  by_cases he : endE y2 l2 = 0
  · have hd := decPR_read HST.out he
    simp only [] at hd
    have hez : ((endE y2 l2 : Int) != 0) = false := by rw [he]; rfl
    have hi := isReply_any (n : Int) (m : Int) w7
    generalize hee : endE y2 l2 = ee at *
    clear he hee HST
    cases hr : replyOk (n : Int) (m : Int)
    · rw [hr] at hi hd
      rw [if_neg (by simp)] at hd
      have HI := Lib.hid hi
      have HD := Lib.hid hd
      clear hi hd hr
      go_wp2_with (first | (refine wpList_load_blk rfl _ _ rfl gd rfl _ #[Value.int .i64 (n : Int), Value.int .i64 (m : Int)] bd7 _ Try.underlying42 rfl reply_size ?_))
      refine HI.out.mono ?_
      rintro e w8 ⟨rfl, hb8⟩
      have hB8 := hB7.trans (hb8.mono hB7.size)
      have br8 := br7.below hb8 br7.lt
      go_wp2_with (first | (refine wpList_store_blk rfl _ _ _ rfl w.heap.size rfl _ _ #[Value.int .i64 0, Value.int .i64 0] br8 rfl reply_size rfl (one_r2 _ _) ?_))
      refine bodyPost_ret (results_cell_tmp1 rfl _ rfl (br8.setRow #[Value.int .i64 0, Value.int .i64 0]) Try.underlying42 rfl reply_size) rfl ?_
      exact ⟨by rw [HD.out]; rfl, below_setRow hB8 (Nat.le_refl _) _⟩
    · rw [hr] at hi hd
      rw [if_pos rfl] at hd
      have HI := Lib.hid hi
      have HD := Lib.hid hd
      clear hi hd hr
      go_wp2_with (first | (refine wpList_load_blk rfl _ _ rfl gd rfl _ #[Value.int .i64 (n : Int), Value.int .i64 (m : Int)] bd7 _ Try.underlying42 rfl reply_size ?_))
      refine HI.out.mono ?_
      rintro e w8 ⟨rfl, hb8⟩
      have hB8 := hB7.trans (hb8.mono hB7.size)
      have br8 := br7.below hb8 br7.lt
      have bd8 := bd7.below hb8 bd7.lt
      go_wp2_with (first | (refine wpList_load_blk rfl _ _ rfl gd rfl _ #[Value.int .i64 (n : Int), Value.int .i64 (m : Int)] bd8 _ Try.underlying42 rfl reply_size ?_) | (refine wpList_store_blk rfl _ _ _ rfl w.heap.size rfl _ _ #[Value.int .i64 (n : Int), Value.int .i64 (m : Int)] br8 rfl reply_size rfl (one_r2 _ _) ?_))
      refine bodyPost_ret (results_cell_tmp1 rfl _ rfl (br8.setRow #[Value.int .i64 (n : Int), Value.int .i64 (m : Int)]) Try.underlying42 rfl reply_size) rfl ?_
      exact ⟨by rw [HD.out]; rfl, below_setRow hB8 (Nat.le_refl _) _⟩
  · have hez : ((endE y2 l2 : Int) != 0) = true := by rw [bne_iff_ne]; omega
    have HD := Lib.hid (decPR_end HST.out he)
    generalize endE y2 l2 = ee at *
    clear he HST
    go_wp2_with (first | (refine wpList_store_blk rfl _ _ _ rfl w.heap.size rfl _ _ #[Value.int .i64 0, Value.int .i64 0] br7 rfl reply_size rfl (one_r2 _ _) ?_))
    refine bodyPost_ret (results_cell_tmp1 rfl _ rfl (br7.setRow #[Value.int .i64 0, Value.int .i64 0]) Try.underlying42 rfl reply_size) rfl ?_
    exact ⟨by rw [HD.out]; rfl, below_setRow hB7 (Nat.le_refl _) _⟩
end Go.Proofs.Ytnmokjgnbcfabaa
