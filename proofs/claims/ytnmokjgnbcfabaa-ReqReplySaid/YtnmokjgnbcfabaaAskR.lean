/-
  Encode and Decode of a Tick; the closed fact.
-/
import Derived.Test.YtnmokjgnbcfabaaAskW
set_option linter.unusedVariables false
set_option linter.unusedSimpArgs false
namespace Go.Proofs.Ytnmokjgnbcfabaa
open Go.RowKit
set_option maxHeartbeats 2000000 in
set_option maxRecDepth 100000 in
theorem cput_any (n : Int) (hn : 0 ≤ n ∧ n ≤ 4611686018427387904) (g q : Nat) (l : List UInt8) (w : World) (bg : Blk w g 77 #[.int .i64 n]) (hW : Wr w q l) (hl : l.length ≤ 70368744177664) :
    Calls Try.prog 80 #[.pointer (some ⟨g, 0, none⟩), .pointer (some ⟨q, 0, none⟩)] w fun e w' => e = .returned (.tuple #[]) ∧ Wr w' q (l ++ putN n.toNat) ∧ Below q w w' := by
  have c0 : w.cell? ⟨g, 0, none⟩ = some (.int .i64 n) := bg.cell 0
  have HN := Lib.hid (wNumber_keep q l n w hW hn hl)
  clear hn hl
  go_enter Try.func80, Try.ntmps80
  go_wp2_with fail
  refine HN.out.mono ?_
  rintro e w1 ⟨rfl, h1, B1, _⟩
  go_wp2_with fail
  go_end0
  exact ⟨rfl, h1, B1⟩
set_option maxHeartbeats 2000000 in
set_option maxRecDepth 100000 in
theorem ctake_any (m : Int) (g r x : Nat) (l : List UInt8) (w : World) (bg : Blk w g 77 #[.int .i64 m]) (hR : Rd w r l x) (hne : g ≠ r) :
    Calls Try.prog 81 #[.pointer (some ⟨g, 0, none⟩), .pointer (some ⟨r, 0, none⟩)] w fun e w' => e = .returned (.tuple #[]) ∧ ∃ (n : Nat) (l' : List UInt8) (y : Nat), Rd w' r l' y ∧ Blk w' g 77 #[.int .i64 n] ∧ Step pInt l x (n : Int) l' y ∧ (∀ B, B ≤ g → B ≤ r → B ≤ w.heap.size → Below B w w') ∧ (∀ b t cs, b ≠ g → b ≠ r → Blk w b t cs → Blk w' b t cs) := by
  go_enter Try.func81, Try.ntmps81
  go_wp2_with fail
  refine (rNumber_any r x l w hR).mono ?_
  rintro e w1 ⟨G1, n, l1, y1, rfl, R1, S1, _, _, _⟩
  have b1 := bg.gr_ G1 hne
  have c0 : w1.cell? ⟨g, 0, none⟩ = some (.int .i64 m) := b1.cell 0
  have f0 : w1.frozen? ⟨g, 0, none⟩ = false := b1.frozen 0
  have HS := Lib.hid S1
  clear S1
  go_wp2_with fail
  go_end0
  refine ⟨rfl, n, l1, y1, Blk.far R1 (p := ⟨g, 0, none⟩) (Ne.symm hne) _, b1.set_ 0 _, HS.out, fun B h1 h2 h3 => ?_, fun b t cs h1 h2 hb => (hb.gr_ G1 h2).far (p := ⟨g, 0, none⟩) h1 _⟩
  exact Below.setCell ((Below.refl B w).grown G1 h3 (fun k hk => by injection hk with hk; omega)) h1 _
set_option maxHeartbeats 2000000 in
set_option maxRecDepth 100000 in
theorem encode_tick (n : Int) (hn : 0 ≤ n ∧ n ≤ 1099511627776) (w : World) :
    Calls Try.prog 9 #[.agg #[.int .i64 7, .string ByteArray.empty, .int .i64 0, .int .i64 0, .int .i64 0, .string ByteArray.empty, .string ByteArray.empty, .int .i64 0, .string ByteArray.empty, .string ByteArray.empty, .string ByteArray.empty, .int .i64 0, .string ByteArray.empty, .int .i64 n]] w fun e w' => e = .returned (.tuple #[.string (bstr (putN 7 ++ putN n.toNat)), .int .i64 0]) ∧ Below w.heap.size w w' := by
  have hb0 : Below w.heap.size w (w.alloc (.cells #[.int .i64 7, .string ByteArray.empty, .int .i64 0, .int .i64 0, .int .i64 0, .string ByteArray.empty, .string ByteArray.empty, .int .i64 0, .string ByteArray.empty, .string ByteArray.empty, .string ByteArray.empty, .int .i64 0, .string ByteArray.empty, .int .i64 n] 29)) := (Below.refl _ _).alloc (Nat.le_refl _) _
  have bx0 := Blk.new w 29 #[.int .i64 7, .string ByteArray.empty, .int .i64 0, .int .i64 0, .int .i64 0, .string ByteArray.empty, .string ByteArray.empty, .int .i64 0, .string ByteArray.empty, .string ByteArray.empty, .string ByteArray.empty, .int .i64 0, .string ByteArray.empty, .int .i64 n]
  have l1 := putN_len10 7 (by omega)
  have l2 := putN_len10 n.toNat (by omega)
  have HN := Lib.hid hn
  clear hn
  go_enter Try.func9, Try.ntmps9
  go_wp2_with fail
  generalize w.alloc _ = w0 at *
  go_wp2_with (first
    | (refine wpList_load_blk rfl _ _ rfl (w.heap.size) rfl _ #[.int .i64 7, .string ByteArray.empty, .int .i64 0, .int .i64 0, .int .i64 0, .string ByteArray.empty, .string ByteArray.empty, .int .i64 0, .string ByteArray.empty, .string ByteArray.empty, .string ByteArray.empty, .int .i64 0, .string ByteArray.empty, .int .i64 n] bx0 _ Try.underlying29 rfl request_size ?_))
  refine (check_tick n HN.out w0).mono ?_
  rintro e w2 ⟨rfl, hb2⟩
  have hB2 := hb0.trans (hb2.mono hb0.size)
  have bx2 := bx0.below hb2 bx0.lt
  clear hb2 hb0 bx0
  have bw := Blk.new w2 50 #[Value.slice none 0 0]
  have hB3 := hB2.alloc hB2.size (.cells #[Value.slice none 0 0] 50)
  have bx3 := bx2.alloc (.cells #[Value.slice none 0 0] 50)
  have hW3 : Wr (w2.alloc (.cells #[Value.slice none 0 0] 50)) w2.heap.size [] := ⟨_, bw, Buf.nil _ _ _⟩
  have n1 : w.heap.size ≠ w2.heap.size := by have := bx2.lt; omega
  have hsz2 := hB2.size
  have x0 : (w2.alloc (.cells #[Value.slice none 0 0] 50)).cell? ⟨w.heap.size, 0, none⟩ = some (.int .i64 7) := bx3.cell 0
  clear bw bx2 hB2
  go_wp2_with fail
  generalize w2.alloc _ = w3 at *
  refine (wNumber_keep w2.heap.size [] 7 w3 hW3 (by omega) (by simp)).mono ?_
  rintro e w4 ⟨rfl, h4, B4, K4⟩
  rw [List.nil_append, show (7 : Int).toNat = 7 from rfl] at h4
  have bx4 := K4 _ _ _ (by decide) n1 bx3
  have hB4 := hB3.trans (B4.mono hsz2)
  clear hB3 bx3 B4 K4 hW3 x0
  go_wp2_with (first
    | (refine wpList_load_blk rfl _ _ rfl (w.heap.size) rfl _ #[.int .i64 7, .string ByteArray.empty, .int .i64 0, .int .i64 0, .int .i64 0, .string ByteArray.empty, .string ByteArray.empty, .int .i64 0, .string ByteArray.empty, .string ByteArray.empty, .string ByteArray.empty, .int .i64 0, .string ByteArray.empty, .int .i64 n] bx4 _ Try.underlying29 rfl request_size ?_))
  refine (partOf_any n w4).mono ?_
  rintro e w5 ⟨g, rfl, hg, bg, hb5⟩
  have h5 := h4.below hb5
  have hB5 := hB4.trans (hb5.mono hB4.size)
  have hl4 := h4.lt
  clear hb5 h4 hB4 bx4
  go_wp2_with fail
  refine (cput_any n (by have := HN.out; omega) g w2.heap.size _ w5 bg h5 (by omega)).mono ?_
  rintro e w6 ⟨rfl, h6, B6⟩
  have hB6 := hB5.trans (B6.mono hsz2)
  clear hB5 B6 h5 bg
  obtain ⟨vv, bw7, hv7⟩ := h6
  obtain ⟨pa, ca, rfl⟩ := hv7.form
  have ew : w6.cell? ⟨w2.heap.size, 0, none⟩ = some (.slice pa (putN 7 ++ putN n.toNat).length ca) := bw7.cell 0
  have hcv := buf_string (P := Try.prog) (U := 5) (src := 48) (dst := 9) Try.underlying48 Try.underlying5 Try.underlying9 hv7
  generalize hO : putN 7 ++ putN n.toNat = out at *
  have HO := Lib.hid hO
  clear hO
  have HB := Lib.hid hB6
  clear hB6 bw7 hv7
  go_wp2_with fail
  go_ret2
  exact ⟨by rw [HO.out]; rfl, HB.out⟩
set_option maxHeartbeats 2000000 in
set_option maxRecDepth 100000 in
theorem decode_tick (n : Int) (hn : 0 ≤ n ∧ n ≤ 1099511627776) (w : World) :
    Calls Try.prog 11 #[.string (bstr (putN 7 ++ putN n.toNat))] w fun e w' => e = .returned (.tuple #[.agg #[.int .i64 7, .string ByteArray.empty, .int .i64 0, .int .i64 0, .int .i64 0, .string ByteArray.empty, .string ByteArray.empty, .int .i64 0, .string ByteArray.empty, .string ByteArray.empty, .string ByteArray.empty, .int .i64 0, .string ByteArray.empty, .int .i64 n], .int .i64 0]) ∧ Below w.heap.size w w' := by
  have hzd := zero_request_lit
  have HP1 := Lib.hid (show pInt (putN 7 ++ putN n.toNat) = .ok 7 (putN n.toNat) from pInt_PP.fwd 7 _ ⟨by decide, by decide⟩)
  have HP2 := Lib.hid (show pInt (putN n.toNat) = .ok n [] from by have := pInt_PP.fwd n [] ⟨by omega, by omega⟩; rwa [List.append_nil] at this)
  generalize putN 7 ++ putN n.toNat = l at *
  have s1 : (w.alloc (.cells #[.int .i64 0, .string ByteArray.empty, .int .i64 0, .int .i64 0, .int .i64 0, .string ByteArray.empty, .string ByteArray.empty, .int .i64 0, .string ByteArray.empty, .string ByteArray.empty, .string ByteArray.empty, .int .i64 0, .string ByteArray.empty, .int .i64 0] 29)).heap.size = w.heap.size + 1 := by simp
  have br3 : Blk ((w.alloc (.cells #[.int .i64 0, .string ByteArray.empty, .int .i64 0, .int .i64 0, .int .i64 0, .string ByteArray.empty, .string ByteArray.empty, .int .i64 0, .string ByteArray.empty, .string ByteArray.empty, .string ByteArray.empty, .int .i64 0, .string ByteArray.empty, .int .i64 0] 29)).alloc (.cells #[.string (bstr l), .int .i64 0] 60)) w.heap.size 29 #[.int .i64 0, .string ByteArray.empty, .int .i64 0, .int .i64 0, .int .i64 0, .string ByteArray.empty, .string ByteArray.empty, .int .i64 0, .string ByteArray.empty, .string ByteArray.empty, .string ByteArray.empty, .int .i64 0, .string ByteArray.empty, .int .i64 0] := (Blk.new w _ _).alloc _
  have rd3 : Rd ((w.alloc (.cells #[.int .i64 0, .string ByteArray.empty, .int .i64 0, .int .i64 0, .int .i64 0, .string ByteArray.empty, .string ByteArray.empty, .int .i64 0, .string ByteArray.empty, .string ByteArray.empty, .string ByteArray.empty, .int .i64 0, .string ByteArray.empty, .int .i64 0] 29)).alloc (.cells #[.string (bstr l), .int .i64 0] 60)) (w.heap.size + 1) l 0 := by have := Blk.new (w.alloc (.cells #[.int .i64 0, .string ByteArray.empty, .int .i64 0, .int .i64 0, .int .i64 0, .string ByteArray.empty, .string ByteArray.empty, .int .i64 0, .string ByteArray.empty, .string ByteArray.empty, .string ByteArray.empty, .int .i64 0, .string ByteArray.empty, .int .i64 0] 29)) 60 #[.string (bstr l), .int .i64 0]; rw [s1] at this; exact this
  have hB3 : Below w.heap.size w ((w.alloc (.cells #[.int .i64 0, .string ByteArray.empty, .int .i64 0, .int .i64 0, .int .i64 0, .string ByteArray.empty, .string ByteArray.empty, .int .i64 0, .string ByteArray.empty, .string ByteArray.empty, .string ByteArray.empty, .int .i64 0, .string ByteArray.empty, .int .i64 0] 29)).alloc (.cells #[.string (bstr l), .int .i64 0] 60)) := ((Below.refl _ _).alloc (Nat.le_refl _) _).alloc (by omega) _
  have HN := Lib.hid hn
  clear s1 hn
  go_enter Try.func11, Try.ntmps11
  go_wp2_with fail
  generalize (w.alloc (.cells #[.int .i64 0, .string ByteArray.empty, .int .i64 0, .int .i64 0, .int .i64 0, .string ByteArray.empty, .string ByteArray.empty, .int .i64 0, .string ByteArray.empty, .string ByteArray.empty, .string ByteArray.empty, .int .i64 0, .string ByteArray.empty, .int .i64 0] 29)).alloc (.cells #[.string (bstr l), .int .i64 0] 60) = W3 at *
  refine (rNumber_any (w.heap.size + 1) 0 l W3 rd3).mono ?_
  rintro e w4 ⟨G4, k, l1, y1, rfl, R4, S4, _, _, _⟩
  have br4 := br3.gr_ G4 (by omega)
  have hB4 : Below w.heap.size w w4 := hB3.grown G4 (by have := rd3.lt; omega) (fun k hk => by injection hk with hk; omega)
  obtain ⟨hk, rfl, rfl⟩ := (S4.2.2 rfl).1 _ _ HP1.out
  have c1 : w4.cell? ⟨w.heap.size + 1, 1, none⟩ = some (.int .i64 0) := R4.cell 1
  rw [hk]
  clear S4 G4 br3 rd3 hB3 HP1 hk
  go_wp2_with fail
  refine (partOf_any 0 w4).mono ?_
  rintro e w5 ⟨g, rfl, hg, bg, hb5⟩
  have br5 := br4.below hb5 br4.lt
  have hr4 := R4.lt
  have rd5 : Rd w5 (w.heap.size + 1) (putN n.toNat) 0 := Blk.below R4 hb5 R4.lt
  have hB5 := hB4.trans (hb5.mono hB4.size)
  clear hb5 hB4 br4 R4 c1
  go_wp2_with fail
  refine (ctake_any 0 g (w.heap.size + 1) 0 _ w5 bg rd5 (by omega)).mono ?_
  rintro e w6 ⟨rfl, m, l2, y2, rd6, bg6, S6, B6, K6⟩
  have br6 := K6 _ _ _ (by omega) (by omega) br5
  have hB6 := hB5.trans (B6 w.heap.size (by omega) (by omega) hB5.size)
  obtain ⟨hm, rfl, rfl⟩ := (S6.2.2 rfl).1 _ _ HP2.out
  rw [hm] at bg6
  clear S6 B6 K6 hB5 br5 rd5 bg HP2 hm
  go_wp2_with fail
  refine (rEnd_any (w.heap.size + 1) 0 [] w6 rd6).mono ?_
  rintro e w7 ⟨G7, rfl⟩
  rw [show endE 0 ([] : List UInt8) = 0 from rfl]
  have br7 := br6.gr_ G7 (by omega)
  have bg7 := bg6.gr_ G7 (by omega)
  have hB7 : Below w.heap.size w w7 := hB6.grown G7 (by have := br6.lt; omega) (fun k hk => by injection hk with hk; omega)
  clear G7 br6 bg6 rd6 hB6
  go_wp2_with fail
  refine (whole_any n g w7 bg7).mono ?_
  rintro e w8 ⟨rfl, hb8⟩
  have br8 := br7.below hb8 br7.lt
  have hB8 := hB7.trans (hb8.mono hB7.size)
  have bq9 := Blk.new w8 29 #[.int .i64 7, .string ByteArray.empty, .int .i64 0, .int .i64 0, .int .i64 0, .string ByteArray.empty, .string ByteArray.empty, .int .i64 0, .string ByteArray.empty, .string ByteArray.empty, .string ByteArray.empty, .int .i64 0, .string ByteArray.empty, .int .i64 n]
  have br9 := br8.alloc (.cells #[.int .i64 7, .string ByteArray.empty, .int .i64 0, .int .i64 0, .int .i64 0, .string ByteArray.empty, .string ByteArray.empty, .int .i64 0, .string ByteArray.empty, .string ByteArray.empty, .string ByteArray.empty, .int .i64 0, .string ByteArray.empty, .int .i64 n] 29)
  have hB9 := hB8.alloc hB8.size (.cells #[.int .i64 7, .string ByteArray.empty, .int .i64 0, .int .i64 0, .int .i64 0, .string ByteArray.empty, .string ByteArray.empty, .int .i64 0, .string ByteArray.empty, .string ByteArray.empty, .string ByteArray.empty, .int .i64 0, .string ByteArray.empty, .int .i64 n] 29)
  have n9 : w.heap.size ≠ w8.heap.size := by have := br8.lt; omega
  clear hb8 hB7 br7 bg7 br8 hB8
  go_wp2_with (first
    | (refine wpList_store_new rfl _ _ _ rfl rfl _ _ #[.int .i64 7, .string ByteArray.empty, .int .i64 0, .int .i64 0, .int .i64 0, .string ByteArray.empty, .string ByteArray.empty, .int .i64 0, .string ByteArray.empty, .string ByteArray.empty, .string ByteArray.empty, .int .i64 0, .string ByteArray.empty, .int .i64 n] rfl request_size rfl (one_q14 _ _) ?_)
    | (refine wpList_load_blk rfl _ _ rfl (w8.heap.size) rfl _ #[.int .i64 7, .string ByteArray.empty, .int .i64 0, .int .i64 0, .int .i64 0, .string ByteArray.empty, .string ByteArray.empty, .int .i64 0, .string ByteArray.empty, .string ByteArray.empty, .string ByteArray.empty, .int .i64 0, .string ByteArray.empty, .int .i64 n] bq9 _ Try.underlying29 rfl request_size ?_))
  generalize w8.alloc _ = w9 at *
  generalize w8.heap.size = gq at *
  refine (check_tick n HN.out w9).mono ?_
  rintro e wa ⟨rfl, hba⟩
  have bra := br9.below hba br9.lt
  have bqa := bq9.below hba bq9.lt
  have hBa := hB9.trans (hba.mono hB9.size)
  clear hba hB9 br9 bq9
  go_wp2_with (first
    | (refine wpList_load_blk rfl _ _ rfl (gq) rfl _ #[.int .i64 7, .string ByteArray.empty, .int .i64 0, .int .i64 0, .int .i64 0, .string ByteArray.empty, .string ByteArray.empty, .int .i64 0, .string ByteArray.empty, .string ByteArray.empty, .string ByteArray.empty, .int .i64 0, .string ByteArray.empty, .int .i64 n] bqa _ Try.underlying29 rfl request_size ?_)
    | (refine wpList_store_blk rfl _ _ _ rfl w.heap.size rfl _ _ #[.int .i64 7, .string ByteArray.empty, .int .i64 0, .int .i64 0, .int .i64 0, .string ByteArray.empty, .string ByteArray.empty, .int .i64 0, .string ByteArray.empty, .string ByteArray.empty, .string ByteArray.empty, .int .i64 0, .string ByteArray.empty, .int .i64 n] bra rfl request_size rfl (one_q14 _ _) ?_))
  refine bodyPost_ret (results_cell_tmp1 rfl _ rfl (bra.setRow #[.int .i64 7, .string ByteArray.empty, .int .i64 0, .int .i64 0, .int .i64 0, .string ByteArray.empty, .string ByteArray.empty, .int .i64 0, .string ByteArray.empty, .string ByteArray.empty, .string ByteArray.empty, .int .i64 0, .string ByteArray.empty, .int .i64 n]) Try.underlying29 rfl request_size) rfl ?_
  exact ⟨rfl, below_setRow hBa (Nat.le_refl _) _⟩
theorem put300 : putN 7 ++ putN (300 : Int).toNat = [7, 172, 2] := by rw [show (300 : Int).toNat = 300 from rfl]; simp [putN]; decide
set_option maxHeartbeats 2000000 in
set_option maxRecDepth 100000 in
theorem asked_any (w : World) :
    Calls Try.prog 8 #[] w fun e w' => e = .returned (.bool true) ∧ Below w.heap.size w w' := by
  have he := fun W => encode_tick 300 (by omega) W
  have hd := fun W => decode_tick 300 (by omega) W
  rw [put300] at he hd
  have HE := Lib.hid he
  have HD := Lib.hid hd
  have hb : bstr [7, 172, 2] = ⟨#[7, 172, 2]⟩ := rfl
  clear he hd
  go_enter Try.func8, Try.ntmps8
  go_wp2_with fail
  refine (HE.out w).mono ?_
  rintro e w1 ⟨rfl, hb1⟩
  go_wp2_with fail
  refine (HD.out w1).mono ?_
  rintro e w2 ⟨rfl, hb2⟩
  have hB2 := hb1.trans (hb2.mono hb1.size)
  have bq3 := Blk.new w2 29 #[.int .i64 7, .string ByteArray.empty, .int .i64 0, .int .i64 0, .int .i64 0, .string ByteArray.empty, .string ByteArray.empty, .int .i64 0, .string ByteArray.empty, .string ByteArray.empty, .string ByteArray.empty, .int .i64 0, .string ByteArray.empty, .int .i64 300]
  have hB3 := hB2.alloc hB2.size (.cells #[.int .i64 7, .string ByteArray.empty, .int .i64 0, .int .i64 0, .int .i64 0, .string ByteArray.empty, .string ByteArray.empty, .int .i64 0, .string ByteArray.empty, .string ByteArray.empty, .string ByteArray.empty, .int .i64 0, .string ByteArray.empty, .int .i64 300] 29)
  have hs : ((bstr [7, 172, 2]).toList == (⟨#[7, 172, 2]⟩ : ByteArray).toList) = true := by rw [hb]; simp
  clear hb1 hb2 hB2
  go_wp2_with (first
    | (refine wpList_store_new rfl _ _ _ rfl rfl _ _ #[.int .i64 7, .string ByteArray.empty, .int .i64 0, .int .i64 0, .int .i64 0, .string ByteArray.empty, .string ByteArray.empty, .int .i64 0, .string ByteArray.empty, .string ByteArray.empty, .string ByteArray.empty, .int .i64 0, .string ByteArray.empty, .int .i64 300] rfl request_size rfl (one_q14 _ _) ?_))
  go_ret
  exact ⟨rfl, hB3⟩
end Go.Proofs.Ytnmokjgnbcfabaa
