/-
  The contract of frame.Decode.
-/
import Derived.Test.YtbjngeaoimaooaaFrameW
set_option linter.unusedVariables false
set_option linter.unusedSimpArgs false
namespace Go.Proofs.Ytbjngeaoimaooaa
open Go.RowKit
theorem badAt_cases (i : Nat) (c : UInt8) (h : i < 4) : badAt i c = 0 ∨ (i < 2 ∧ badAt i c = 4) ∨ (2 ≤ i ∧ badAt i c = 1) := by
  unfold badAt
  split
  · split <;> omega
  · split
    · split <;> omega
    · split
      · split <;> omega
      · split <;> omega
theorem decF_def {l : List UInt8} (h0 : hdE 4 0 l = 0) (h4 : 4 ≤ l.length) : decF l =
  (if (rd (l.drop 4)).2.2 ≠ 0 then .err (rd (l.drop 4)).2.2 else if 6000 < (rd (l.drop 4)).1 then .err 2 else
  if l.length < 4 + (rd (l.drop 4)).2.1 + (rd (l.drop 4)).1 + 4 then .err 3 else
  if sum4 (crc (l.take (4 + (rd (l.drop 4)).2.1 + (rd (l.drop 4)).1))) ≠ (l.drop (4 + (rd (l.drop 4)).2.1 + (rd (l.drop 4)).1)).take 4 then .err 5 else
  ⟨0, (l.getD 2 0).toNat, (l.getD 3 0).toNat, (l.drop (4 + (rd (l.drop 4)).2.1)).take (rd (l.drop 4)).1, 4 + (rd (l.drop 4)).2.1 + (rd (l.drop 4)).1 + 4⟩) := by
  rw [decF, if_neg (by rw [h0]; simp), if_neg (by omega)]
def decV (r : DecR) : Value := .tuple #[.agg #[.int .i64 r.ver, .int .i64 r.kind, .string (bstr r.pl)], .int .i64 r.n, .int .i64 r.e]
theorem decV_err (e : Nat) : decV (.err e) = .tuple #[.agg zfr, .int .i64 0, .int .i64 e] := rfl
set_option maxHeartbeats 4000000 in
set_option maxRecDepth 100000 in
theorem decode_any (s : ByteArray) (w : World) (hs : s.size ≤ 4611686018427387904) :
    Calls Try.prog 15 #[.string s] w fun e w' => e = .returned (decV (decF s.data.toList)) ∧ Below w.heap.size w w' := by
  have hl : s.data.toList.length = s.size := by simp
  have hz : ∀ W, (zeroValue 34).run Try.prog W = .ok (.agg zfr) W := by
    obtain ⟨i0, hi, hz0, hz1, hz2⟩ := info_parts frame_info
    intro W; simp [zeroValue, typeInfo, hi, hz0]
  obtain ⟨m, hm⟩ : ∃ m, m = min s.size 4 := ⟨_, rfl⟩
  have hmin : ∀ W, (Builtin.min_ #[3, 3] 3 #[.int .i64 (s.size : Int), .int .i64 4]).run Try.prog W = .ok (.int .i64 (m : Int)) W := by
    intro W; rw [run_min_int2]; congr 2; split <;> omega
  have hm4 : m ≤ 4 := by omega
  have hms : m ≤ s.size := by omega
  have hm' : (s.size < 4 ∧ m = s.size) ∨ (4 ≤ s.size ∧ m = 4) := by omega
  have HM := Lib.hid hm'
  have hm0 : (({ data := #[66, 75] } : ByteArray)[0]'(by decide)).toNat = 66 := rfl
  have hm1 : (({ data := #[66, 75] } : ByteArray)[1]'(by decide)).toNat = 75 := rfl
  clear hm hm'
  go_enter Try.func15, Try.ntmps15
  go_wp2_with fail
  have hblk := Blk.new w 34 zfr
  have hbel : Below w.heap.size w (w.alloc (.cells zfr 34)) := (Below.refl _ _).alloc (Nat.le_refl _) _
  generalize w.alloc (.cells zfr 34) = W at *
  clear hz hmin
  go_loop [16] (fun i => ∃ k : Nat, k ≤ m ∧ i = .int .i64 k ∧ Hid (hdE 4 0 s.data.toList = hdE (4 - k) k (s.data.toList.drop k))) (fun i => m - (intOf i).toNat)
  case atStart => exact ⟨0, by omega, rfl, rfl⟩
  case round =>
    obtain ⟨k, hk, rfl, H⟩ := hrel
    by_cases hlt : k < m
    · have hks : k < s.size := by omega
      have H1 := H.out
      have hf : 4 - k = (4 - (k + 1)) + 1 := by omega
      rw [drop_cons s k hks, hf, hdE] at H1
      have hcb := (s[k]).toNat_lt
      by_cases hbad : badAt k s[k] = 0
      · rw [if_pos hbad] at H1
        have HH := Lib.hid H1
        clear H H1 hf
        have h4 : k = 0 ∨ k = 1 ∨ k = 2 ∨ k = 3 := by omega
        rcases h4 with rfl | rfl | rfl | rfl
        · have hc : s[0] = 66 := by
            unfold badAt at hbad; simp at hbad; exact hbad
          have hc2 : ((s[0].toNat : Int) == 66) = true := by rw [hc]; rfl
          have hc3 : ((s[0].toNat : Int) != 66) = false := by rw [hc]; rfl
          clear hc hbad
          go_wp2_with fail
          go_round
          case rel => exact ⟨1, by omega, by go_num, HH⟩
          case measure => simp [intOf]; omega
        · have hc : s[1] = 75 := by
            unfold badAt at hbad; simp at hbad; exact hbad
          have hc2 : ((s[1].toNat : Int) == 75) = true := by rw [hc]; rfl
          have hc3 : ((s[1].toNat : Int) != 75) = false := by rw [hc]; rfl
          clear hc hbad
          go_wp2_with fail
          go_round
          case rel => exact ⟨2, by omega, by go_num, HH⟩
          case measure => simp [intOf]; omega
        · have hc : 1 ≤ s[2].toNat ∧ s[2].toNat ≤ 3 := by
            unfold badAt at hbad; simp at hbad; exact hbad
          have hc1 := hc.1
          have hc2 := hc.2
          clear hc hbad
          go_wp2_with (first | (go_at_call 17; refine (isVersion_yes _ _ (by omega) (by omega)).mono ?_; rintro e w1 ⟨rfl, rfl⟩))
          go_round
          case rel => exact ⟨3, by omega, by go_num, HH⟩
          case measure => simp [intOf]; omega
        · have hc : 1 ≤ s[3].toNat ∧ s[3].toNat ≤ 4 := by
            unfold badAt at hbad; simp at hbad; exact hbad
          have hc1 := hc.1
          have hc2 := hc.2
          clear hc hbad
          go_wp2_with (first | (go_at_call 18; refine (isKind_yes _ _ (by omega) (by omega)).mono ?_; rintro e w1 ⟨rfl, rfl⟩))
          go_round
          case rel => exact ⟨4, by omega, by go_num, HH⟩
          case measure => simp [intOf]; omega
      · rw [if_neg hbad] at H1
        have h4 : k = 0 ∨ k = 1 ∨ k = 2 ∨ k = 3 := by omega
        have hE : decF s.data.toList = .err (badAt k s[k]) := by unfold decF; rw [if_pos (by rw [H1]; exact hbad), H1]
        clear H H1 hf
        rcases h4 with rfl | rfl | rfl | rfl
        · have hc : ¬ s[0] = 66 := by
            intro h; apply hbad; unfold badAt; simp [h]
          have hn : ¬ s[0].toNat = 66 := fun h => hc (UInt8.toNat_inj.1 (by rw [h]; rfl))
          have hc2 : ((s[0].toNat : Int) == 66) = false := by rw [beq_eq_false_iff_ne]; omega
          have hc3 : ((s[0].toNat : Int) != 66) = true := by rw [bne_iff_ne]; omega
          have hE2 : decF s.data.toList = .err 4 := by
            rw [hE]; rcases badAt_cases 0 s[0] (by omega) with h | ⟨_, h⟩ | ⟨h, _⟩
            · exact absurd h hbad
            · rw [h]
            · omega
          have HE := Lib.hid hE2
          clear hc hn hbad hE hE2
          go_wp2_with (first | (go_at_call 21; refine (none_any _ _).mono ?_; rintro e w1 ⟨rfl, hb1⟩) | (refine wpList_store_blk rfl _ _ _ rfl w.heap.size rfl _ _ _ (hblk.below hb1 hblk.lt) rfl frame_size3 rfl zfr_one ?_))
          (try simp only [Exit.inBlock, Exit.then])
          refine bodyPost_ret (results_cell_tmp2 rfl _ rfl ((hblk.below hb1 hblk.lt).setRow zfr) Try.underlying34 rfl frame_size3) rfl ?_
          exact ⟨by rw [HE.out, decV_err]; rfl, below_setRow (hbel.trans (hb1.mono hbel.size)) (Nat.le_refl _) _⟩
        · have hc : ¬ s[1] = 75 := by
            intro h; apply hbad; unfold badAt; simp [h]
          have hn : ¬ s[1].toNat = 75 := fun h => hc (UInt8.toNat_inj.1 (by rw [h]; rfl))
          have hc2 : ((s[1].toNat : Int) == 75) = false := by rw [beq_eq_false_iff_ne]; omega
          have hc3 : ((s[1].toNat : Int) != 75) = true := by rw [bne_iff_ne]; omega
          have hE2 : decF s.data.toList = .err 4 := by
            rw [hE]; rcases badAt_cases 1 s[1] (by omega) with h | ⟨_, h⟩ | ⟨h, _⟩
            · exact absurd h hbad
            · rw [h]
            · omega
          have HE := Lib.hid hE2
          clear hc hn hbad hE hE2
          go_wp2_with (first | (go_at_call 21; refine (none_any _ _).mono ?_; rintro e w1 ⟨rfl, hb1⟩) | (refine wpList_store_blk rfl _ _ _ rfl w.heap.size rfl _ _ _ (hblk.below hb1 hblk.lt) rfl frame_size3 rfl zfr_one ?_))
          (try simp only [Exit.inBlock, Exit.then])
          refine bodyPost_ret (results_cell_tmp2 rfl _ rfl ((hblk.below hb1 hblk.lt).setRow zfr) Try.underlying34 rfl frame_size3) rfl ?_
          exact ⟨by rw [HE.out, decV_err]; rfl, below_setRow (hbel.trans (hb1.mono hbel.size)) (Nat.le_refl _) _⟩
        · have hc : ¬ (1 ≤ s[2].toNat ∧ s[2].toNat ≤ 3) := by
            intro h; apply hbad; unfold badAt; simp [h]
          have hE2 : decF s.data.toList = .err 1 := by
            rw [hE]; rcases badAt_cases 2 s[2] (by omega) with h | ⟨h, _⟩ | ⟨_, h⟩
            · exact absurd h hbad
            · omega
            · rw [h]
          have HE := Lib.hid hE2
          clear hbad hE hE2
          go_wp2_with (first | (go_at_call 17; refine (isVersion_no _ _ (by omega)).mono ?_; rintro e w1 ⟨rfl, rfl⟩) | (go_at_call 21; refine (none_any _ _).mono ?_; rintro e w1 ⟨rfl, hb1⟩) | (refine wpList_store_blk rfl _ _ _ rfl w.heap.size rfl _ _ _ (hblk.below hb1 hblk.lt) rfl frame_size3 rfl zfr_one ?_))
          (try simp only [Exit.inBlock, Exit.then])
          refine bodyPost_ret (results_cell_tmp2 rfl _ rfl ((hblk.below hb1 hblk.lt).setRow zfr) Try.underlying34 rfl frame_size3) rfl ?_
          exact ⟨by rw [HE.out, decV_err]; rfl, below_setRow (hbel.trans (hb1.mono hbel.size)) (Nat.le_refl _) _⟩
        · have hc : ¬ (1 ≤ s[3].toNat ∧ s[3].toNat ≤ 4) := by
            intro h; apply hbad; unfold badAt; simp [h]
          have hE2 : decF s.data.toList = .err 1 := by
            rw [hE]; rcases badAt_cases 3 s[3] (by omega) with h | ⟨h, _⟩ | ⟨_, h⟩
            · exact absurd h hbad
            · omega
            · rw [h]
          have HE := Lib.hid hE2
          clear hbad hE hE2
          go_wp2_with (first | (go_at_call 18; refine (isKind_no _ _ (by omega)).mono ?_; rintro e w1 ⟨rfl, rfl⟩) | (go_at_call 21; refine (none_any _ _).mono ?_; rintro e w1 ⟨rfl, hb1⟩) | (refine wpList_store_blk rfl _ _ _ rfl w.heap.size rfl _ _ _ (hblk.below hb1 hblk.lt) rfl frame_size3 rfl zfr_one ?_))
          (try simp only [Exit.inBlock, Exit.then])
          refine bodyPost_ret (results_cell_tmp2 rfl _ rfl ((hblk.below hb1 hblk.lt).setRow zfr) Try.underlying34 rfl frame_size3) rfl ?_
          exact ⟨by rw [HE.out, decV_err]; rfl, below_setRow (hbel.trans (hb1.mono hbel.size)) (Nat.le_refl _) _⟩
    · obtain rfl : k = m := by omega
      have H1 := H.out
      clear H
      rcases HM.out with ⟨h4, hk4⟩ | ⟨h4, hk4⟩
      · have hE : decF s.data.toList = .err 3 := by
          have h0 : hdE 4 0 s.data.toList = 0 := by
            rw [H1, List.drop_of_length_le (by omega)]
            rw [show 4 - k = (3 - k) + 1 by omega]; rfl
          unfold decF; rw [if_neg (by rw [h0]; simp), if_pos (by omega)]
        have HE := Lib.hid hE
        clear hE H1 hl hk4
        go_wp2_with (first | (go_at_call 21; refine (none_any _ _).mono ?_; rintro e w1 ⟨rfl, hb1⟩) | (refine wpList_store_blk rfl _ _ _ rfl w.heap.size rfl _ _ _ (hblk.below hb1 hblk.lt) rfl frame_size3 rfl zfr_one ?_))
        (try simp only [Exit.inBlock, Exit.then])
        refine bodyPost_ret (results_cell_tmp2 rfl _ rfl ((hblk.below hb1 hblk.lt).setRow zfr) Try.underlying34 rfl frame_size3) rfl ?_
        exact ⟨by rw [HE.out, decV_err]; rfl, below_setRow (hbel.trans (hb1.mono hbel.size)) (Nat.le_refl _) _⟩

      · obtain rfl : k = 4 := hk4
        have h0 : hdE 4 0 s.data.toList = 0 := by rw [H1]; rfl
        have hR : ∀ w, _ := fun w => readNumber_any (s.extract 4 s.size) w
        have hx : (s.extract 4 s.size).data.toList = s.data.toList.drop 4 := by
          simp only [ByteArray.data_extract, Array.toList_extract, List.extract_eq_take_drop]
          exact List.take_of_length_le (by simp)
        rw [hx] at hR
        have hD := decF_def h0 (by omega)
        have h4i : (4 : Int) ≤ s.size := by omega
        by_cases he : (rd (s.data.toList.drop 4)).2.2 = 0
        · obtain ⟨n, k, hr, hp, hk1, hk10, hkl, hn, hall⟩ := rd_ok _ he
          rw [hr] at hR hD
          have HR := Lib.hid hR
          have hkz : 4 + k ≤ s.size := by simp at hkl; omega
          obtain ⟨F, hF⟩ : ∃ F, F = 4 + k := ⟨_, rfl⟩
          have hF1 : (4 : Int) + (k : Int) = (F : Int) := by omega
          clear hR hr he hp hall hkl h0 H1 hx
          by_cases h6 : 6000 < n
          · have hE : decF s.data.toList = .err 2 := by rw [hD]; simp only []; rw [if_neg (by simp), if_pos h6]
            have HE := Lib.hid hE
            clear hE hD hl hF
            go_wp2_with (first | (go_at_call 22; refine (HR.out _).mono ?_; rintro e w1 ⟨rfl, rfl⟩) | (go_at_call 21; refine (none_any _ _).mono ?_; rintro e w1 ⟨rfl, hb1⟩) | (refine wpList_store_blk rfl _ _ _ rfl w.heap.size rfl _ _ _ (hblk.below hb1 hblk.lt) rfl frame_size3 rfl zfr_one ?_))
            (try simp only [Exit.inBlock, Exit.then])
            refine bodyPost_ret (results_cell_tmp2 rfl _ rfl ((hblk.below hb1 hblk.lt).setRow zfr) Try.underlying34 rfl frame_size3) rfl ?_
            exact ⟨by rw [HE.out, decV_err]; rfl, below_setRow (hbel.trans (hb1.mono hbel.size)) (Nat.le_refl _) _⟩

          · have hn6 : n ≤ 6000 := by omega
            obtain ⟨E, hEE⟩ : ∃ E, E = F + n := ⟨_, rfl⟩
            have hE1 : (F : Int) + (n : Int) = (E : Int) := by omega
            have hFw : IntKind.i64.wrap ((F : Int) + (n : Int)) = (E : Int) := by rw [hE1]; exact IntWalk.i64_in _ (by omega)
            obtain ⟨G, hG⟩ : ∃ G, G = E + 4 := ⟨_, rfl⟩
            have hG1 : (E : Int) + 4 = (G : Int) := by omega
            have HG := Lib.hid hG
            have hGw : IntKind.i64.wrap ((E : Int) + 4) = (G : Int) := by rw [hG1]; exact IntWalk.i64_in _ (by omega)
            have hGw2 : IntKind.i64.wrap (G : Int) = (G : Int) := IntWalk.i64_in _ (by omega)
            by_cases h3 : s.size < G
            · have hE : decF s.data.toList = .err 3 := by rw [hD]; simp only []; rw [if_neg (by simp), if_neg (by omega), if_pos (by omega)]
              have HE := Lib.hid hE
              clear hE hD hl hF hEE hG
              go_wp2_with (first | (go_at_call 22; refine (HR.out _).mono ?_; rintro e w1 ⟨rfl, rfl⟩) | (go_at_call 21; refine (none_any _ _).mono ?_; rintro e w1 ⟨rfl, hb1⟩) | (refine wpList_store_blk rfl _ _ _ rfl w.heap.size rfl _ _ _ (hblk.below hb1 hblk.lt) rfl frame_size3 rfl zfr_one ?_))
              (try simp only [Exit.inBlock, Exit.then])
              refine bodyPost_ret (results_cell_tmp2 rfl _ rfl ((hblk.below hb1 hblk.lt).setRow zfr) Try.underlying34 rfl frame_size3) rfl ?_
              exact ⟨by rw [HE.out, decV_err]; rfl, below_setRow (hbel.trans (hb1.mono hbel.size)) (Nat.le_refl _) _⟩

            · have hGs : (G : Int) ≤ s.size := by omega
              have hEG : (E : Int) ≤ G := by omega
              have hFE : (F : Int) ≤ E := by omega
              have hEs : (E : Int) ≤ s.size := by omega
              have hsz : (s.extract 0 E).size ≤ 4611686018427387904 := by rw [ByteArray.size_extract]; omega
              have hHS := fun w => fsum_any (s.extract 0 E) w hsz
              have hx1 : (s.extract 0 E).data.toList = s.data.toList.take E := by simp [ByteArray.data_extract]
              have hx2 : (s.extract E G).toList = (s.data.toList.drop E).take 4 := by
                rw [ByteArray.toList_eq]; simp only [ByteArray.data_extract, Array.toList_extract, List.extract_eq_take_drop]; rw [hG, Nat.add_sub_cancel_left]
              rw [hx1] at hHS
              have hD2 := hD
              simp only [] at hD2
              rw [if_neg (by simp), if_neg (by omega), if_neg (by omega), ← hF, ← hEE] at hD2
              clear hD
              generalize hC : crc (s.data.toList.take E) = C at *
              have HS := Lib.hid hHS
              clear hHS hC hsz
              by_cases hsm : sum4 C = (s.data.toList.drop E).take 4
              · rw [if_neg (by simpa using hsm)] at hD2
                have b1 : ((bstr (sum4 C)).toList == (s.extract E G).toList) = true := by rw [hx2, ← hsm, bstr, ByteArray.toList_mk]; simp
                have b2 : ((bstr (sum4 C)).toList != (s.extract E G).toList) = false := by rw [bne, b1]; rfl
                have h2s : 2 < s.size := by omega
                have h3s : 3 < s.size := by omega
                have i2s : (2 : Int) < s.size := by omega
                have i3s : (3 : Int) < s.size := by omega
                have hx3 : s.extract F E = bstr ((s.data.toList.drop F).take n) := by
                  apply ByteArray.ext; apply Array.ext'
                  simp only [bstr, ByteArray.data_extract, Array.toList_extract, List.extract_eq_take_drop]; rw [hEE, Nat.add_sub_cancel_left]
                have hg2 : s.data.toList.getD 2 0 = s[2] := by simp [List.getD, h2s]; rfl
                have hg3 : s.data.toList.getD 3 0 = s[3] := by simp [List.getD, h3s]; rfl
                rw [hg2, hg3] at hD2
                have HE := Lib.hid hD2
                have HX := Lib.hid hx3
                clear hD2 hsm hx1 hx2 hx3 hg2 hg3 hl hF hEE hG
                go_wp2_with (go_at_call 22; refine (HR.out _).mono ?_; rintro e w1 ⟨rfl, rfl⟩)
                go_region_held3 (fun _ => True) (trivial) ((go_at_call 20; refine (HS.out _).mono ?_; rintro e w2 ⟨rfl, hb2⟩))
                have hblk2 : Blk w2 w.heap.size 34 zfr := (hblk.drew).below hb2 hblk.lt
                have hbel2 : Below w.heap.size w w2 := hbel.drew.trans (hb2.mono hbel.size)
                have c0 : w2.cell? ⟨w.heap.size, 0, none⟩ = some (.int .i64 0) := by rw [hblk2.cell]; rfl
                have c1 : w2.cell? ⟨w.heap.size, 1, none⟩ = some (.int .i64 0) := by rw [hblk2.cell]; rfl
                have c2 : w2.cell? ⟨w.heap.size, 2, none⟩ = some (.string ByteArray.empty) := by rw [hblk2.cell]; rfl
                have f0 := hblk2.frozen 0
                have f1 := hblk2.frozen 1
                have f2 := hblk2.frozen 2
                have c0' : w2.drew.cell? ⟨w.heap.size, 0, none⟩ = some (.int .i64 0) := c0
                have c1' : w2.drew.cell? ⟨w.heap.size, 1, none⟩ = some (.int .i64 0) := c1
                have c2' : w2.drew.cell? ⟨w.heap.size, 2, none⟩ = some (.string ByteArray.empty) := c2
                have f0' : w2.drew.frozen? ⟨w.heap.size, 0, none⟩ = false := f0
                have f1' : w2.drew.frozen? ⟨w.heap.size, 1, none⟩ = false := f1
                have f2' : w2.drew.frozen? ⟨w.heap.size, 2, none⟩ = false := f2
                go_wp2_with fail
                go_big_region
                go_wp2_with fail
                (try simp only [Exit.inBlock, Exit.then])
                have e2 : wrap64 (s[2].toNat : Int) = (s[2].toNat : Int) := by have := s[2].toNat_lt; unfold wrap64; omega
                have e3 : wrap64 (s[3].toNat : Int) = (s[3].toNat : Int) := by have := s[3].toNat_lt; unfold wrap64; omega
                rw [e2, e3, HX.out]
                have hB : Blk (((w2.setCell ⟨w.heap.size, 0, none⟩ (.int .i64 (s[2].toNat : Int))).setCell ⟨w.heap.size, 1, none⟩ (.int .i64 (s[3].toNat : Int))).setCell ⟨w.heap.size, 2, none⟩ (.string (bstr ((s.data.toList.drop F).take n)))).drew w.heap.size 34 #[.int .i64 (s[2].toNat : Int), .int .i64 (s[3].toNat : Int), .string (bstr ((s.data.toList.drop F).take n))] :=
                  ((hblk2.set_ 0 _).set_ 1 _).set_ 2 _
                refine bodyPost_ret (results_cell_tmp2 rfl _ rfl hB Try.underlying34 rfl frame_size3) rfl ?_
                refine ⟨?_, (((hbel2.setCell (Nat.le_refl _) _).setCell (Nat.le_refl _) _).setCell (Nat.le_refl _) _).drew⟩
                rw [HE.out, ← HG.out]
                rfl
              · have hE : decF s.data.toList = .err 5 := by rw [hD2, if_pos hsm]
                have b1 : ((bstr (sum4 C)).toList == (s.extract E G).toList) = false := by
                  rw [beq_eq_false_iff_ne, hx2, bstr, ByteArray.toList_mk]; exact hsm
                have b2 : ((bstr (sum4 C)).toList != (s.extract E G).toList) = true := by rw [bne, b1]; rfl
                have HE := Lib.hid hE
                clear hE hD2 hsm hx1 hx2 hl hF hEE hG
                go_wp2_with (go_at_call 22; refine (HR.out _).mono ?_; rintro e w1 ⟨rfl, rfl⟩)
                go_region_held3 (fun _ => True) (trivial) ((go_at_call 20; refine (HS.out _).mono ?_; rintro e w2 ⟨rfl, hb2⟩))
                have hblk2 : Blk w2 w.heap.size 34 zfr := (hblk.drew).below hb2 hblk.lt
                have hbel2 : Below w.heap.size w w2 := hbel.drew.trans (hb2.mono hbel.size)
                clear hblk hbel
                go_wp2_with (first | (go_at_call 21; refine (none_any _ _).mono ?_; rintro e w1 ⟨rfl, hb1⟩) | (refine wpList_store_blk rfl _ _ _ rfl w.heap.size rfl _ _ _ (hblk2.below hb1 hblk2.lt) rfl frame_size3 rfl zfr_one ?_))
                (try simp only [Exit.inBlock, Exit.then])
                refine bodyPost_ret (results_cell_tmp2 rfl _ rfl ((hblk2.below hb1 hblk2.lt).setRow zfr) Try.underlying34 rfl frame_size3) rfl ?_
                exact ⟨by rw [HE.out, decV_err]; rfl, below_setRow (hbel2.trans (hb1.mono hbel2.size)) (Nat.le_refl _) _⟩
        · rcases rd_err _ he with hr | hr
          all_goals
            rw [hr] at hR hD
            have HR := Lib.hid hR
          · have hE : decF s.data.toList = .err 3 := by rw [hD]; rfl
            have HE := Lib.hid hE
            clear hR hD hr he hE h0 H1 hl hx
            go_wp2_with (first | (go_at_call 22; refine (HR.out _).mono ?_; rintro e w1 ⟨rfl, rfl⟩) | (go_at_call 21; refine (none_any _ _).mono ?_; rintro e w1 ⟨rfl, hb1⟩) | (refine wpList_store_blk rfl _ _ _ rfl w.heap.size rfl _ _ _ (hblk.below hb1 hblk.lt) rfl frame_size3 rfl zfr_one ?_))
            (try simp only [Exit.inBlock, Exit.then])
            refine bodyPost_ret (results_cell_tmp2 rfl _ rfl ((hblk.below hb1 hblk.lt).setRow zfr) Try.underlying34 rfl frame_size3) rfl ?_
            exact ⟨by rw [HE.out, decV_err]; rfl, below_setRow (hbel.trans (hb1.mono hbel.size)) (Nat.le_refl _) _⟩

          · have hE : decF s.data.toList = .err 4 := by rw [hD]; rfl
            have HE := Lib.hid hE
            clear hR hD hr he hE h0 H1 hl hx
            go_wp2_with (first | (go_at_call 22; refine (HR.out _).mono ?_; rintro e w1 ⟨rfl, rfl⟩) | (go_at_call 21; refine (none_any _ _).mono ?_; rintro e w1 ⟨rfl, hb1⟩) | (refine wpList_store_blk rfl _ _ _ rfl w.heap.size rfl _ _ _ (hblk.below hb1 hblk.lt) rfl frame_size3 rfl zfr_one ?_))
            (try simp only [Exit.inBlock, Exit.then])
            refine bodyPost_ret (results_cell_tmp2 rfl _ rfl ((hblk.below hb1 hblk.lt).setRow zfr) Try.underlying34 rfl frame_size3) rfl ?_
            exact ⟨by rw [HE.out, decV_err]; rfl, below_setRow (hbel.trans (hb1.mono hbel.size)) (Nat.le_refl _) _⟩

end Go.Proofs.Ytbjngeaoimaooaa
