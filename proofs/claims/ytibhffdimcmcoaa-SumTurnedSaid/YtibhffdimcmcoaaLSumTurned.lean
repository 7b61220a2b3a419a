/-
  The law SumTurned of package brackenkeep: for every input it answers true.
-/
import Derived.Test.YtibhffdimcmcoaaRows
import Derived.Test.YtibhffdimcmcoaaBase
import Derived.Test.YtibhffdimcmcoaaPrimW
import Derived.Test.YtibhffdimcmcoaaCrcW
import Derived.Test.YtibhffdimcmcoaaRestW
set_option linter.unusedVariables false
set_option linter.unusedSimpArgs false
namespace Go.Proofs.Ytibhffdimcmcoaa.sumTurned
open Go.ChangeShapes Go.WideShapes Go.ChangeAt Go.RowKit Go.Joins
open Go.ChangeMaps (open_string)
theorem eq_of_lists {s t : ByteArray} (h : s.data.toList = t.data.toList) : s = t := by
  cases s; cases t; simp at h; subst h; rfl
theorem turned_eq (p q : List UInt8) (c d : UInt8) : crc (p ++ c :: q) = crc (p ++ d :: q) ↔ c = d := by
  rw [crc_eq_iff, reg_append, reg_append, reg_cons, reg_cons]
  constructor
  · intro h
    have hr := reg_lt p 4294967295 (by omega)
    exact upd_byte hr (reg_inj q (upd_lt _ _ hr) (upd_lt _ _ hr) h)
  · rintro rfl; rfl
theorem swapped_eq (p q : List UInt8) (c d : UInt8) : crc (p ++ c :: d :: q) = crc (p ++ d :: c :: q) ↔ c = d := by
  rw [crc_eq_iff, reg_append, reg_append, reg_cons, reg_cons, reg_cons, reg_cons]
  constructor
  · intro h
    have hr := reg_lt p 4294967295 (by omega)
    exact upd_swap hr (reg_inj q (upd_lt _ _ (upd_lt _ _ hr)) (upd_lt _ _ (upd_lt _ _ hr)) h)
  · rintro rfl; rfl
theorem beq_pair {p q : Nat} {l r : List UInt8} (h : p = q ↔ l = r) :
    (((p : Int) == (q : Int)) = true ∧ (l == r) = true) ∨ (((p : Int) == (q : Int)) = false ∧ (l == r) = false) := by
  by_cases e : p = q
  · left; rw [beq_iff_eq, beq_iff_eq]; exact ⟨by rw [e], h.1 e⟩
  · right; rw [beq_eq_false_iff_ne, beq_eq_false_iff_ne]; exact ⟨fun e' => e (by omega), fun e' => e (h.2 e')⟩
theorem split_at (s : ByteArray) (k : Nat) (h : k < s.size) : s.data.toList = s.data.toList.take k ++ s[k] :: s.data.toList.drop (k + 1) := by
  rw [← drop_cons s k h, List.take_append_drop]
theorem turned_facts (s : ByteArray) (k : Nat) (c : UInt8) (h : k < s.size) :
    (s.extract 0 k ++ { data := #[c] } ++ s.extract (k + 1) s.size).size = s.size ∧
    (((((crc (s.extract 0 k ++ { data := #[c] } ++ s.extract (k + 1) s.size).data.toList : Nat) : Int) == ((crc s.data.toList : Nat) : Int)) = true ∧ ((s.extract 0 k ++ { data := #[c] } ++ s.extract (k + 1) s.size).toList == s.toList) = true) ∨
     ((((crc (s.extract 0 k ++ { data := #[c] } ++ s.extract (k + 1) s.size).data.toList : Nat) : Int) == ((crc s.data.toList : Nat) : Int)) = false ∧ ((s.extract 0 k ++ { data := #[c] } ++ s.extract (k + 1) s.size).toList == s.toList) = false)) := by
  have e : (s.extract 0 k ++ { data := #[c] } ++ s.extract (k + 1) s.size).data.toList = s.data.toList.take k ++ c :: s.data.toList.drop (k + 1) := by
    simp only [ByteArray.data_append, ByteArray.data_extract, Array.toList_append, Array.toList_extract]
    simp
    rw [List.take_of_length_le (by simp)]
  have hsz : ∀ b : ByteArray, b.size = b.data.toList.length := fun b => by simp
  refine ⟨?_, beq_pair ?_⟩
  · rw [hsz, e]; simp only [List.length_append, List.length_cons, List.length_take, List.length_drop]; have := hsz s; omega
  · rw [ByteArray.toList_eq, ByteArray.toList_eq, e]
    have hs := split_at s k h
    generalize s.data.toList.take k = P at *
    generalize s.data.toList.drop (k + 1) = Q at *
    rw [hs, turned_eq]
    constructor
    · intro he; rw [he]
    · intro he
      have := List.append_cancel_left he
      exact (List.cons.inj this).1
theorem swapped_facts (s : ByteArray) (k : Nat) (h : k + 1 < s.size) :
    (s.extract 0 k ++ s.extract (k + 1) (k + 2) ++ s.extract k (k + 1) ++ s.extract (k + 2) s.size).size = s.size ∧
    (((((crc (s.extract 0 k ++ s.extract (k + 1) (k + 2) ++ s.extract k (k + 1) ++ s.extract (k + 2) s.size).data.toList : Nat) : Int) == ((crc s.data.toList : Nat) : Int)) = true ∧ ((s.extract 0 k ++ s.extract (k + 1) (k + 2) ++ s.extract k (k + 1) ++ s.extract (k + 2) s.size).toList == s.toList) = true) ∨
     ((((crc (s.extract 0 k ++ s.extract (k + 1) (k + 2) ++ s.extract k (k + 1) ++ s.extract (k + 2) s.size).data.toList : Nat) : Int) == ((crc s.data.toList : Nat) : Int)) = false ∧ ((s.extract 0 k ++ s.extract (k + 1) (k + 2) ++ s.extract k (k + 1) ++ s.extract (k + 2) s.size).toList == s.toList) = false)) := by
  have hs : s.data.toList = s.data.toList.take k ++ s[k] :: s[k + 1] :: s.data.toList.drop (k + 2) := by
    rw [← drop_cons s (k + 1) h, ← split_at s k (by omega)]
  have hd : s.data.toList.drop k = s[k] :: s[k + 1] :: s.data.toList.drop (k + 2) := by
    rw [drop_cons s k (by omega), drop_cons s (k + 1) h]
  have e : (s.extract 0 k ++ s.extract (k + 1) (k + 2) ++ s.extract k (k + 1) ++ s.extract (k + 2) s.size).data.toList = s.data.toList.take k ++ s[k + 1] :: s[k] :: s.data.toList.drop (k + 2) := by
    have x1 : (s.extract (k + 1) (k + 2)).data.toList = [s[k + 1]] := by
      simp only [ByteArray.data_extract, Array.toList_extract, List.extract_eq_take_drop]
      rw [drop_cons s (k + 1) h, show k + 2 - (k + 1) = 1 by omega]; rfl
    have x2 : (s.extract k (k + 1)).data.toList = [s[k]] := by
      simp only [ByteArray.data_extract, Array.toList_extract, List.extract_eq_take_drop]
      rw [drop_cons s k (by omega), show k + 1 - k = 1 by omega]; rfl
    have x3 : (s.extract (k + 2) s.size).data.toList = s.data.toList.drop (k + 2) := by
      simp only [ByteArray.data_extract, Array.toList_extract, List.extract_eq_take_drop]
      rw [List.take_of_length_le (by simp)]
    have x4 : (s.extract 0 k).data.toList = s.data.toList.take k := by
      simp [ByteArray.data_extract]
    simp only [ByteArray.data_append, Array.toList_append, x1, x2, x3, x4]
    simp
  have hsz : ∀ b : ByteArray, b.size = b.data.toList.length := fun b => by simp
  refine ⟨?_, beq_pair ?_⟩
  · rw [hsz, e]; simp only [List.length_append, List.length_cons, List.length_take, List.length_drop]; have := hsz s; omega
  · rw [ByteArray.toList_eq, ByteArray.toList_eq, e]
    generalize s.data.toList.take k = P at *
    generalize s.data.toList.drop (k + 2) = Q at *
    rw [hs, swapped_eq]
    constructor
    · intro he; rw [he]
    · intro he
      have := List.append_cancel_left he
      exact (List.cons.inj this).1
set_option maxHeartbeats 4000000 in
set_option maxRecDepth 100000 in
theorem walk (s : ByteArray) (hs : s.size ≤ 140737488351232) (a : Int) (a1 : -9223372036854775808 ≤ a) (a2 : a ≤ 9223372036854775807) (c : Nat) (hc : c < 256) (w : World) :
    Calls Try.prog 9 #[.string s, .int .i64 a, .int .u8 c] w fun e w' => e = .returned (.bool true) ∧ Below w.heap.size w w' := by
  by_cases h0 : s.size = 0
  · have e0 : s.data.toList = [] := List.eq_nil_of_length_eq_zero (by simpa using h0)
    have h0' : ((s.size : Int) == 0) = true := by simp [h0]
    have hE : crc s.data.toList = 0 := by rw [e0]; rfl
    have HE := Lib.hid hE
    clear h0 hE e0
    go_enter Try.func9, Try.ntmps9
    go_wp2_with fail
    refine (told_any _).mono ?_
    rintro e w1 ⟨rfl, rfl⟩
    go_wp2_with fail
    refine (sum_check _).mono ?_
    rintro e w1 ⟨rfl, hb1⟩
    go_wp2_with fail
    refine (sum_any _ _ (by omega)).mono ?_
    rintro e w2 ⟨rfl, hb2⟩
    go_wp2_with fail
    go_ret
    exact ⟨congrArg (fun b => Ending.returned (.bool b)) (by rw [HE.out]; rfl), bthen hb1 hb2⟩
  · have h0' : ((s.size : Int) == 0) = false := beq_eq_false_iff_ne.2 (by omega)
    have hpos : (0 : Int) < s.size := by omega
    have hk0 := Int.emod_nonneg a (show (s.size : Int) ≠ 0 by omega)
    have hk1 := Int.emod_lt_of_pos a hpos
    have hcu : (UInt8.ofNat c).toNat = c := by simp only [UInt8.toNat_ofNat']; omega
    have hcv := fun W => conv_lit_drew (P := Try.prog) (src := 39) (dst := 9) Try.underlying39 Try.underlying5 Try.underlying9 #[.int .u8 (c : Int)] [UInt8.ofNat c] (by simp only [bytesV, List.map_cons, List.map_nil, hcu]) 1 1 rfl W 5
    go_enter Try.func9, Try.ntmps9
    go_wp2_with fail
    refine (told_any _).mono ?_
    rintro e w1 ⟨rfl, rfl⟩
    go_wp2_with fail
    refine (sum_check _).mono ?_
    rintro e w1 ⟨rfl, hb1⟩
    go_wp2_with fail
    refine (rest_any _ _ _ (by omega) (by omega)).mono ?_
    rintro e w2 ⟨rfl, rfl⟩
    generalize a % (s.size : Int) = j at *
    obtain ⟨k, rfl⟩ := Int.eq_ofNat_of_zero_le hk0
    have hks : k < s.size := by omega
    have hle1 : (k : Int) ≤ s.size := by omega
    have hle2 : (k : Int) + 1 ≤ s.size := by omega
    have hw1 : IntKind.i64.wrap ((k : Int) + 1) = (k : Int) + 1 := IntWalk.i64_in _ (by omega)
    have hn1 : (0 : Int) ≤ (k : Int) + 1 := by omega
    have ht1 : ((k : Int) + 1).toNat = k + 1 := by omega
    clear hcu
    have hz1 : (s.extract 0 k).size = k := by rw [ByteArray.size_extract]; omega
    have hz2 : (s.extract (k + 1) s.size).size = s.size - (k + 1) := by rw [ByteArray.size_extract]; omega
    go_wp2_with fail
    go_big_region
    have hT := turned_facts s k (UInt8.ofNat c) hks
    generalize s.extract 0 k ++ { data := #[UInt8.ofNat c] } ++ s.extract (k + 1) s.size = T at *
    obtain ⟨hTs, hT1⟩ := hT
    have HT := Lib.hid hT1
    clear hT1 hz1 hz2
    go_wp2_with fail
    refine (sum_any T _ (by omega)).mono ?_
    rintro e w2 ⟨rfl, hb2⟩
    go_wp2_with fail
    refine (sum_any s _ (by omega)).mono ?_
    rintro e w3 ⟨rfl, hb3⟩
    have hT2 := HT.out
    rcases hT2 with ⟨e1, e2⟩ | ⟨e1, e2⟩
    all_goals
      by_cases hend : k + 1 = s.size
      · have hend' : ((k : Int) + 1 == (s.size : Int)) = true := by rw [beq_iff_eq]; omega
        clear hend
        go_wp2_with fail
        go_ret
        exact ⟨rfl, bthen (bthen (((bthen hb1 ((Below.refl _ _).alloc (Nat.le_refl _) _))).drew) hb2) hb3⟩
      · have hend' : ((k : Int) + 1 == (s.size : Int)) = false := beq_eq_false_iff_ne.2 (by omega)
        have hle3 : (k : Int) + 2 ≤ s.size := by omega
        have hw2 : IntKind.i64.wrap ((k : Int) + 2) = (k : Int) + 2 := IntWalk.i64_in _ (by omega)
        have hn2 : (0 : Int) ≤ (k : Int) + 2 := by omega
        have hn3 : (k : Int) + 1 ≤ (k : Int) + 2 := by omega
        have hn4 : (k : Int) ≤ (k : Int) + 1 := by omega
        have ht2 : ((k : Int) + 2).toNat = k + 2 := by omega
        have hz1 : (s.extract 0 k).size = k := by rw [ByteArray.size_extract]; omega
        have hz2 : (s.extract (k + 1) (k + 2)).size = 1 := by rw [ByteArray.size_extract]; omega
        have hz3 : (s.extract k (k + 1)).size = 1 := by rw [ByteArray.size_extract]; omega
        have hz4 : (s.extract (k + 2) s.size).size = s.size - (k + 2) := by rw [ByteArray.size_extract]; omega
        clear hend
        go_wp2_with fail
        go_big_region
        have hU := swapped_facts s k (by omega)
        generalize s.extract 0 k ++ s.extract (k + 1) (k + 2) ++ s.extract k (k + 1) ++ s.extract (k + 2) s.size = U at *
        obtain ⟨hUs, hU1⟩ := hU
        have HU := Lib.hid hU1
        clear hU1 hz1 hz2 hz3 hz4
        go_wp2_with fail
        refine (sum_any U _ (by omega)).mono ?_
        rintro e w4 ⟨rfl, hb4⟩
        go_wp2_with fail
        refine (sum_any s _ (by omega)).mono ?_
        rintro e w5 ⟨rfl, hb5⟩
        have hU2 := HU.out
        clear e1 e2
        rcases hU2 with ⟨e1, e2⟩ | ⟨e1, e2⟩
        all_goals
          go_wp2_with fail
          go_ret
          exact ⟨rfl, bthen (bthen (bthen (bthen (((bthen hb1 ((Below.refl _ _).alloc (Nat.le_refl _) _))).drew) hb2) hb3).drew hb4) hb5⟩

theorem own : ownKnob Try.prog.godebug = none := by kernel_rfl
theorem laid : laidOutB Try.prog = true := by kernel_rfl
set_option maxRecDepth 100000 in
theorem contract (H : Type) (enc : TypeId × Value → H) (W : World) (base : Nat) (args : Array Value) (ds gs : List (DataW H)) (before : List MemPlace)
    (hval0 : ∀ (j : Nat) t v, Try.f9.params[j]? = some t → args[j]? = some v → Value.okWide Try.prog W .any base t v)
    (hW : DataW.Whole enc Try.prog Try.f9.params.toList Rows.sumTurnedSpec.vars false W args.toList ds gs before)
    (hsz0 : (DataW.weightsEach Try.prog (Try.f9.params.toList ++ Rows.sumTurnedSpec.plain.varTypes Try.prog) (ds ++ gs)).all (· ≤ reachBytes) = true) :
    Calls Try.prog 9 args W fun e W' => ∃ v, e = .returned v ∧ Rows.sumTurnedSpec.post enc Try.prog Try.f9 false true false false W args v W' := by
  have hval : ∀ (j : Nat) t v, Try.f9.params[j]? = some t → args[j]? = some v → Value.okWide Try.prog W .any base t v := hval0
  have hsz : (DataW.weightsEach Try.prog (Try.f9.params.toList ++ Rows.sumTurnedSpec.plain.varTypes Try.prog) (ds ++ gs)).all (· ≤ reachBytes) = true := hsz0
  have hlt : ∀ x ∈ before, x.block < W.heap.size := fun x hx => hW.lt x hx
  have hW' := hW
  obtain ⟨p, q, hA0, hV, rfl, hfz, hnd⟩ := hW
  have hA : DataW.TrodAll enc Try.prog W 0 (fun _ => true) true Try.f9.params.toList args.toList ds p := hA0
  rw [Try.params9] at hA hval hsz
  obtain ⟨v0, vs0, d0, ds0, p0, q0, hargs, rfl, rfl, h0, r0⟩ := trodAll_cons hA
  obtain ⟨v1, vs1, d1, ds1, p1, q1, rfl, rfl, rfl, h1, r1⟩ := trodAll_cons r0
  obtain ⟨v2, vs2, d2, ds2, p2, q2, rfl, rfl, rfl, h2, r2⟩ := trodAll_cons r1
  obtain ⟨rfl, rfl, rfl⟩ := trodAll_nil r2
  obtain rfl : args = #[v0, v1, v2] := by cases args; simp_all
  obtain ⟨rfl, rfl⟩ := trodVars_none hV
  obtain ⟨a0, rfl, rfl, rfl, w0⟩ := open_string Try.underlying9 (hval 0 9 v0 rfl rfl) h0
  have b0 : a0.size ≤ 140737488351232 := by have := sized_string hsz (j := 0) (t := 9) rfl rfl; simpa [reachBytes] using this
  obtain ⟨a1, rfl, rfl, rfl, w1⟩ := open_int Try.underlying3 (hval 1 3 v1 rfl rfl) h1
  have b1 := bounds_i64 w1
  obtain ⟨a2, rfl, rfl, rfl, w2⟩ := open_int Try.underlying5 (hval 2 5 v2 rfl rfl) h2
  have b2 := bounds_u8 w2
  obtain ⟨n2, rfl⟩ := Int.eq_ofNat_of_zero_le b2.1
  refine (walk a0 b0 a1 b1.1 b1.2 n2 (by have := b2.2; omega) W).mono fun e W' ⟨he, hb⟩ => ?_
  subst he
  exact ⟨_, rfl, law_post laid (by kernel_rfl) Try.underlying4 rfl rfl hW' rfl rfl rfl rfl hb⟩

set_option maxRecDepth 100000 in
theorem lifted (os : Os) (started : os.Started) (H : Type) (enc : TypeId × Value → H) :
    ReturnsInHanded {} Try.checked os 9 .any (Rows.sumTurnedSpec.pre6 enc Try.prog Try.f9 Rows.sumTurnedRow.domain false) (Rows.sumTurnedSpec.post enc Try.prog Try.f9 false true false false) := by
  refine returnsInHanded_of_change_sized (C := Try.checked) own started (by kernel_rfl) Try.func9
    (ChangeSpec.witness6 (enc := enc) (C := Try.checked) false ⟨#[], #[.string ByteArray.empty, .int .i64 0, .int .u8 0], []⟩ 8 (by kernel_rfl) (by kernel_rfl) (by kernel_rfl) (by kernel_rfl)) ?_
  intro W base args ds gs before hval0 hW _ hsz0 _
  exact contract H enc W base args ds gs before hval0 hW hsz0

theorem over : Rows.sumTurnedRow.holds Try.pinned (OpenSpec.ofChange Rows.sumTurnedSpec) :=
  OpenClaim.holds_of_wide 9 Try.f9 rfl rfl rfl rfl rfl rfl rfl ⟨rfl, rfl, rfl, rfl, rfl⟩ rfl rfl rfl rfl rfl (by kernel_rfl) Try.func9 (by kernel_rfl)
    (of_decide_eq_true (by kernel_rfl)) (by unfold Func.isWrapper; first | (rw [if_pos (by decide +kernel)]; kernel_rfl) | (rw [if_neg (by decide +kernel)]; exact ⟨rfl, rfl⟩))
    (fun os started H enc _ => lifted os started H enc)

/-- The statement. -/
theorem proved : Rows.SumTurnedSaid := over
#print axioms proved
end Go.Proofs.Ytibhffdimcmcoaa.sumTurned
