/-
  Plain law: a frame with one byte that is another one.
-/
import Derived.Test.YtibhffdimcmcoaaFrameL
set_option linter.unusedVariables false
set_option linter.unusedSimpArgs false
namespace Go.Proofs.Ytibhffdimcmcoaa
theorem crc_set (B : List UInt8) (j : Nat) (c : UInt8) (hj : j < B.length) (h : crc (B.set j c) = crc B) : B.set j c = B := by
  have e1 : B.set j c = B.take j ++ c :: B.drop (j + 1) := by rw [List.set_eq_take_append_cons_drop, if_pos hj]
  have e2 : B = B.take j ++ B[j] :: B.drop (j + 1) := by rw [← List.drop_eq_getElem_cons hj, List.take_append_drop]
  rw [e1] at h ⊢
  generalize hP : B.take j = P at *
  generalize hQ : B.drop (j + 1) = Q at *
  generalize hx : B[j] = x at *
  subst e2
  rw [crc_eq_iff, reg_append, reg_append, reg_cons, reg_cons] at h
  have hr := reg_lt P 4294967295 (by omega)
  rw [upd_byte hr (reg_inj Q (upd_lt _ _ hr) (upd_lt _ _ hr) h)]
theorem turned_law (v k : Nat) (pl : List UInt8) (hv : 1 ≤ v ∧ v ≤ 3) (hk : 1 ≤ k ∧ k ≤ 4) (hp : pl.length ≤ 6000) (j : Nat) (c : UInt8) (hj : j < (wireF v k pl).length)
    (hne : (wireF v k pl).set j c ≠ wireF v k pl) (he : (decF ((wireF v k pl).set j c)).e = 0) :
    ¬ ((decF ((wireF v k pl).set j c)).ver = v ∧ (decF ((wireF v k pl).set j c)).kind = k ∧ (decF ((wireF v k pl).set j c)).pl = pl) ∧ 4 ≤ j ∧ j < 4 + (putN pl.length).length := by
  obtain ⟨iv, ik, ip, iw, in_⟩ := decF_inv _ he
  have hl := wireF_length v k pl
  have hlU : ((wireF v k pl).set j c).length = (wireF v k pl).length := by simp
  refine ⟨?_, ?_⟩
  · rintro ⟨e1, e2, e3⟩
    rw [e1, e2, e3] at iw
    apply hne
    have h1 := congrArg List.length iw
    rw [List.length_take] at h1
    rw [List.take_of_length_le (by omega)] at iw
    exact iw.symm
  · refine Classical.byContradiction fun hout => hne ?_
    have hdr : ∃ more, ((wireF v k pl).set j c).drop 4 = putN pl.length ++ more := by
      have h4 : (wireF v k pl).drop 4 = putN pl.length ++ (pl ++ sum4 (crc (bodyF v k pl))) := by rw [wireF_split]; rfl
      by_cases h : j < 4
      · exact ⟨_, by rw [List.drop_set_of_lt h, h4]⟩
      · refine ⟨(pl ++ sum4 (crc (bodyF v k pl))).set (j - 4 - (putN pl.length).length) c, ?_⟩
        rw [List.drop_set, if_neg h, h4, List.set_append_right _ _ (by omega)]
    obtain ⟨more, hdr⟩ := hdr
    have hr := rd_put pl.length more (by omega)
    rw [← hdr] at hr
    -- what is decoded has the size of the frame
    have hn : (decF ((wireF v k pl).set j c)).pl.length = pl.length := by
      have h1 : ((wireF v k pl).set j c).take (decF ((wireF v k pl).set j c)).n = wireF (decF ((wireF v k pl).set j c)).ver (decF ((wireF v k pl).set j c)).kind (decF ((wireF v k pl).set j c)).pl := iw.symm
      generalize decF ((wireF v k pl).set j c) = r at *
      have h2 := congrArg (List.drop 4) h1
      rw [List.drop_take] at h2
      have h3 : (wireF r.ver r.kind r.pl).drop 4 = putN r.pl.length ++ (r.pl ++ sum4 (crc (bodyF r.ver r.kind r.pl))) := by rw [wireF_split]; rfl
      rw [h3] at h2
      have h5 : ((wireF v k pl).set j c).drop 4 = putN r.pl.length ++ ((r.pl ++ sum4 (crc (bodyF r.ver r.kind r.pl))) ++ (((wireF v k pl).set j c).drop 4).drop (r.n - 4)) := by
        rw [← List.append_assoc, ← h2, List.take_append_drop]
      have h6 := rd_put r.pl.length ((r.pl ++ sum4 (crc (bodyF r.ver r.kind r.pl))) ++ (((wireF v k pl).set j c).drop 4).drop (r.n - 4)) (by omega)
      rw [← h5, hr] at h6
      simp only [Prod.mk.injEq] at h6
      exact h6.1.symm
    have hwl := wireF_length (decF ((wireF v k pl).set j c)).ver (decF ((wireF v k pl).set j c)).kind (decF ((wireF v k pl).set j c)).pl
    have hU : (wireF v k pl).set j c = wireF (decF ((wireF v k pl).set j c)).ver (decF ((wireF v k pl).set j c)).kind (decF ((wireF v k pl).set j c)).pl := by
      have h1 := congrArg List.length iw
      rw [List.length_take] at h1
      rw [hn] at hwl
      rw [iw, List.take_of_length_le (by omega)]
    generalize decF ((wireF v k pl).set j c) = r at *
    have hb : (bodyF v k pl).length = (bodyF r.ver r.kind r.pl).length := by rw [bodyF_length, bodyF_length, hn]
    have hcl := crc_lt (bodyF v k pl)
    have hcr := crc_lt (bodyF r.ver r.kind r.pl)
    rw [wireF, wireF] at hU
    by_cases h : j < (bodyF v k pl).length
    · rw [List.set_append_left _ _ h] at hU
      have h1 := List.append_inj hU (by simpa using hb)
      have h2 := sum4_inj hcl hcr h1.2
      rw [← h1.1] at h2
      rw [wireF, List.set_append_left _ _ h, crc_set _ j c h h2.symm]
    · rw [List.set_append_right _ _ (by omega)] at hU
      have h1 := List.append_inj hU hb
      rw [wireF, List.set_append_right _ _ (by omega), h1.2, ← h1.1]
end Go.Proofs.Ytibhffdimcmcoaa
