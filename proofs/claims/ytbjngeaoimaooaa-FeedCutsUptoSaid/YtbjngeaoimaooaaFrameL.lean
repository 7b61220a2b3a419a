/-
  Plain laws of frames.
-/
import Derived.Test.YtbjngeaoimaooaaFrameP
set_option linter.unusedVariables false
set_option linter.unusedSimpArgs false
namespace Go.Proofs.Ytbjngeaoimaooaa

theorem ofNat_byte (n : Nat) (h : n < 256) : (UInt8.ofNat n).toNat = n := by simp only [UInt8.toNat_ofNat']; omega
theorem bodyF_length (v k : Nat) (pl : List UInt8) : (bodyF v k pl).length = 4 + (putN pl.length).length + pl.length := by
  simp [bodyF]; omega
theorem wireF_length (v k : Nat) (pl : List UInt8) : (wireF v k pl).length = 8 + (putN pl.length).length + pl.length := by
  simp [wireF, bodyF_length, sum4]; omega
theorem wireF_split (v k : Nat) (pl : List UInt8) : wireF v k pl = 66 :: 75 :: UInt8.ofNat v :: UInt8.ofNat k :: (putN pl.length ++ (pl ++ sum4 (crc (bodyF v k pl)))) := by
  simp [wireF, bodyF]
theorem hdE_good (v k : Nat) (hv : 1 ≤ v ∧ v ≤ 3) (hk : 1 ≤ k ∧ k ≤ 4) (r : List UInt8) (j : Nat) : hdE 4 0 ((66 :: 75 :: UInt8.ofNat v :: UInt8.ofNat k :: r).take j) = 0 := by
  have h1 := ofNat_byte v (by omega)
  have h2 := ofNat_byte k (by omega)
  have b0 : badAt 0 66 = 0 := rfl
  have b1 : badAt 1 75 = 0 := rfl
  have b2 : badAt 2 (UInt8.ofNat v) = 0 := by unfold badAt; rw [h1]; simp [hv]
  have b3 : badAt 3 (UInt8.ofNat k) = 0 := by unfold badAt; rw [h2]; simp [hk]
  match j with
  | 0 => rfl
  | 1 => simp [hdE, b0]
  | 2 => simp [hdE, b0, b1]
  | 3 => simp [hdE, b0, b1, b2]
  | j + 4 => simp [hdE, b0, b1, b2, b3]

theorem decF_wire (v k : Nat) (pl more : List UInt8) (hv : 1 ≤ v ∧ v ≤ 3) (hk : 1 ≤ k ∧ k ≤ 4) (hp : pl.length ≤ 6000) :
    decF (wireF v k pl ++ more) = ⟨0, v, k, pl, (wireF v k pl).length⟩ := by
  have hl := wireF_length v k pl
  have hs : wireF v k pl ++ more = 66 :: 75 :: UInt8.ofNat v :: UInt8.ofNat k :: (putN pl.length ++ (pl ++ (sum4 (crc (bodyF v k pl)) ++ more))) := by
    rw [wireF_split]; simp
  have h0 : hdE 4 0 (wireF v k pl ++ more) = 0 := by
    have := hdE_good v k hv hk (putN pl.length ++ (pl ++ (sum4 (crc (bodyF v k pl)) ++ more))) (wireF v k pl ++ more).length
    rw [← hs, List.take_length] at this; exact this
  have hr : rd ((wireF v k pl ++ more).drop 4) = (pl.length, (putN pl.length).length, 0) := by
    rw [hs]; simp only [List.drop_succ_cons, List.drop_zero]
    exact rd_put _ _ (by omega)
  have hb : (wireF v k pl ++ more).take (4 + (putN pl.length).length + pl.length) = bodyF v k pl := by
    rw [← bodyF_length v k pl]
    simp [wireF]
  have ht : ((wireF v k pl ++ more).drop (4 + (putN pl.length).length + pl.length)).take 4 = sum4 (crc (bodyF v k pl)) := by
    rw [← bodyF_length v k pl]
    simp [wireF, List.append_assoc, sum4]
  have hq : ((wireF v k pl ++ more).drop (4 + (putN pl.length).length)).take pl.length = pl := by
    rw [hs]
    rw [show 4 + (putN pl.length).length = (putN pl.length).length + 4 by omega]
    simp only [List.drop_succ_cons]
    simp
  have hlen : (wireF v k pl ++ more).length = 8 + (putN pl.length).length + pl.length + more.length := by rw [List.length_append, hl]
  rw [decF, if_neg (by rw [h0]; simp), if_neg (by omega), hr]
  simp only []
  rw [if_neg (by simp), if_neg (by omega), if_neg (by omega), hb, ht, if_neg (by simp), hq]
  have g2 : (wireF v k pl ++ more).getD 2 0 = UInt8.ofNat v := by rw [hs]; rfl
  have g3 : (wireF v k pl ++ more).getD 3 0 = UInt8.ofNat k := by rw [hs]; rfl
  rw [g2, g3, ofNat_byte v (by omega), ofNat_byte k (by omega), hl]
  congr 1
  omega

theorem decF_short (v k : Nat) (pl : List UInt8) (hv : 1 ≤ v ∧ v ≤ 3) (hk : 1 ≤ k ∧ k ≤ 4) (hp : pl.length ≤ 6000) (j : Nat) (hj : j < (wireF v k pl).length) :
    decF ((wireF v k pl).take j) = .err 3 := by
  have hl := wireF_length v k pl
  have hs := wireF_split v k pl
  have h0 : hdE 4 0 ((wireF v k pl).take j) = 0 := by rw [hs]; exact hdE_good v k hv hk _ j
  have hlen : ((wireF v k pl).take j).length = j := by rw [List.length_take]; omega
  rw [decF, if_neg (by rw [h0]; simp)]
  by_cases h4 : j < 4
  · rw [if_pos (by omega)]
  · rw [if_neg (by omega)]
    have hd : ((wireF v k pl).take j).drop 4 = (putN pl.length ++ (pl ++ sum4 (crc (bodyF v k pl)))).take (j - 4) := by
      rw [hs]
      obtain ⟨i, rfl⟩ : ∃ i, j = i + 4 := ⟨j - 4, by omega⟩
      simp
    have hr0 := rd_put pl.length (pl ++ sum4 (crc (bodyF v k pl))) (by omega)
    by_cases hk2 : j - 4 < (putN pl.length).length
    · obtain ⟨n, kk, h1, _, _, _, _, _, h7⟩ := rd_ok (putN pl.length ++ (pl ++ sum4 (crc (bodyF v k pl)))) (by rw [hr0])
      rw [hr0] at h1
      have hkk : kk = (putN pl.length).length := by simp at h1; omega
      rw [hd, h7 (j - 4) (by omega)]
      rfl
    · have hr : rd (((wireF v k pl).take j).drop 4) = (pl.length, (putN pl.length).length, 0) := by
        rw [hd, List.take_append, List.take_of_length_le (by omega)]
        exact rd_put _ _ (by omega)
      rw [hr]
      simp only []
      rw [if_neg (by simp), if_neg (by omega), if_pos (by omega)]

theorem decF_err (l : List UInt8) (h : (decF l).e ≠ 0) : decF l = .err (decF l).e := by
  unfold decF at h ⊢
  (repeat' split) <;> first | rfl | (exfalso; simp_all)

theorem decF_inv (l : List UInt8) (h : (decF l).e = 0) :
    (1 ≤ (decF l).ver ∧ (decF l).ver ≤ 3) ∧ (1 ≤ (decF l).kind ∧ (decF l).kind ≤ 4) ∧ (decF l).pl.length ≤ 6000 ∧ wireF (decF l).ver (decF l).kind (decF l).pl = l.take (decF l).n ∧ (decF l).n ≤ l.length := by
  by_cases h0 : hdE 4 0 l = 0
  · by_cases h4 : l.length < 4
    · rw [decF, if_neg (by rw [h0]; simp), if_pos h4] at h; exact absurd h (by decide)
    · have hD := decF
      by_cases hr0 : (rd (l.drop 4)).2.2 = 0
      · obtain ⟨n, k, hr, hp, hk1, hk10, hkl, hn, _⟩ := rd_ok _ hr0
        rw [decF, if_neg (by rw [h0]; simp), if_neg h4, hr] at h ⊢
        simp only [] at h ⊢
        rw [if_neg (by simp)] at h ⊢
        by_cases h6 : 6000 < n
        · rw [if_pos h6] at h; exact absurd h (by decide)
        · rw [if_neg h6] at h ⊢
          by_cases h3 : l.length < 4 + k + n + 4
          · rw [if_pos h3] at h; exact absurd h (by decide)
          · rw [if_neg h3] at h ⊢
            by_cases hs : sum4 (crc (l.take (4 + k + n))) ≠ (l.drop (4 + k + n)).take 4
            · rw [if_pos hs] at h; exact absurd h (by decide)
            · rw [if_neg hs]
              simp only []
              match l, h4 with
              | a :: b :: c :: d :: r, _ =>
                simp only [hdE] at h0
                by_cases b0 : badAt 0 a = 0
                · rw [if_pos b0] at h0
                  by_cases b1 : badAt 1 b = 0
                  · rw [if_pos b1] at h0
                    by_cases b2 : badAt 2 c = 0
                    · rw [if_pos b2] at h0
                      by_cases b3 : badAt 3 d = 0
                      · have ea : a = 66 := by simp [badAt] at b0; exact b0
                        have eb : b = 75 := by simp [badAt] at b1; exact b1
                        have ec : 1 ≤ c.toNat ∧ c.toNat ≤ 3 := by simp [badAt] at b2; exact b2
                        have ed : 1 ≤ d.toNat ∧ d.toNat ≤ 4 := by simp [badAt] at b3; exact b3
                        subst ea; subst eb
                        have g2 : (66 :: 75 :: c :: d :: r).getD 2 0 = c := rfl
                        have g3 : (66 :: 75 :: c :: d :: r).getD 3 0 = d := rfl
                        rw [g2, g3]
                        simp only [List.drop_succ_cons, List.drop_zero, List.length_cons] at hp hkl h3
                        have hpl : ((66 :: 75 :: c :: d :: r).drop (4 + k)).take n = (r.drop k).take n := by
                          rw [show 4 + k = k + 4 by omega]; simp
                        rw [hpl]
                        have hpn : ((r.drop k).take n).length = n := by rw [List.length_take, List.length_drop]; omega
                        refine ⟨ec, ed, by omega, ?_, by simp only [List.length_cons]; omega⟩
                        have hbody : bodyF c.toNat d.toNat ((r.drop k).take n) = (66 :: 75 :: c :: d :: r).take (4 + k + n) := by
                          unfold bodyF
                          rw [hpn, hp]
                          rw [show 4 + k + n = (k + n) + 4 by omega]
                          simp only [List.take_succ_cons, UInt8.ofNat_toNat, List.cons_append, List.nil_append, List.append_assoc]
                          rw [List.take_add]
                        unfold wireF
                        rw [hbody, Classical.not_not.1 hs, ← List.take_add]
                      · rw [if_neg b3] at h0; exact absurd h0 b3
                    · rw [if_neg b2] at h0; exact absurd h0 b2
                  · rw [if_neg b1] at h0; exact absurd h0 b1
                · rw [if_neg b0] at h0; exact absurd h0 b0
      · rw [decF, if_neg (by rw [h0]; simp), if_neg h4, if_pos hr0] at h
        exact absurd h hr0
  · rw [decF, if_pos h0] at h; exact absurd h h0

theorem wireF_inj {v k v' k' : Nat} {pl pl' : List UInt8} (hv : 1 ≤ v ∧ v ≤ 3) (hk : 1 ≤ k ∧ k ≤ 4) (hp : pl.length ≤ 6000) (hv' : 1 ≤ v' ∧ v' ≤ 3) (hk' : 1 ≤ k' ∧ k' ≤ 4) (hp' : pl'.length ≤ 6000)
    (h : wireF v k pl = wireF v' k' pl') : v = v' ∧ k = k' ∧ pl = pl' := by
  have h1 := decF_wire v k pl [] hv hk hp
  have h2 := decF_wire v' k' pl' [] hv' hk' hp'
  rw [h, h2] at h1
  simp only [DecR.mk.injEq] at h1
  exact ⟨h1.2.1.symm, h1.2.2.1.symm, h1.2.2.2.1.symm⟩
end Go.Proofs.Ytbjngeaoimaooaa
