/-
  Contracts of package prim over this seat's translation.
-/
import Derived.Test.YtnmokjgnbcfabaaRows
import Derived.Test.YtnmokjgnbcfabaaPrimP
import Derived.Test.YtnmokjgnbcfabaaBase
set_option linter.unusedVariables false
set_option linter.unusedSimpArgs false
namespace Go.Proofs.Ytnmokjgnbcfabaa
open Go.RowKit

set_option maxHeartbeats 1000000 in
set_option maxRecDepth 100000 in
theorem readNumber_any (s : ByteArray) (w : World) :
    Calls Try.prog 24 #[.string s] w fun e w' => e = .returned (.tuple #[.int .u64 (rd s.data.toList).1, .int .i64 (rd s.data.toList).2.1, .int .i64 (rd s.data.toList).2.2]) ∧ w = w' := by
  go_enter Try.func24, Try.ntmps24
  go_wp2
  go_loop [5,8] (fun n i => ∃ k m : Nat, k ≤ s.size ∧ k ≤ 10 ∧ m < 2 ^ (7 * k) ∧ Hid (rd s.data.toList = rdN (10 - k) k m (s.data.toList.drop k)) ∧ i = .int .i64 k ∧ n = .int .u64 m) (fun _ i => 10 - (intOf i).toNat)
  case atStart => exact ⟨0, 0, Nat.zero_le _, Nat.zero_le _, by simp, by simp [Hid, rd], rfl, rfl⟩
  case round =>
    obtain ⟨k, m, hk, hk2, hm, H, rfl, rfl⟩ := hrel
    by_cases hlt : k < 10
    · have hf : 10 - k = (10 - (k + 1)) + 1 := by omega
      by_cases hk : k < s.size
      · have H1 := H.out
        rw [drop_cons s k hk, hf, rdN] at H1
        have hc := (s[k]).toNat_lt
        have hv : (k = 9 → (s[k]).toNat ≤ 1) → _ := fun h9 => rd_step_val m (s[k]).toNat k (by omega) hm hc h9
        have hl := rd_step_lt m (s[k]).toNat k hm
        by_cases hbad : (k = 9 ∧ 1 < (s[k]).toNat) ∨ (0 < k ∧ (s[k]).toNat = 0)
        · rw [if_pos hbad] at H1
          have HH := Lib.hid H1
          have hb := rd_bad _ _ hbad
          clear H H1 hbad hv hl hf hm
          rcases hb with ⟨t1, t2⟩ | ⟨t1, t2, t3, t4⟩ | ⟨t1, t2, t3⟩
          all_goals
            go_wp2
            refine bodyPost_ret (results_tmp3 rfl _ _ _) rfl ?_
            exact ⟨by rw [HH.out]; rfl, rfl⟩
        · rw [if_neg hbad] at H1
          have HV := Lib.hid (hv (by omega))
          have HL := Lib.hid hl
          have hg := rd_good _ _ hbad
          by_cases h128 : (s[k]).toNat < 128
          · rw [if_pos h128] at H1
            have HH := Lib.hid H1
            clear H H1 hbad hv hl hf hm
            rcases hg with ⟨t1, t2, t3, t4⟩ | ⟨t1, t2, t3⟩ | ⟨t1, t2⟩
            all_goals
              go_wp2
              refine bodyPost_ret (results_tmp3 rfl _ _ _) rfl ?_
              exact ⟨by rw [HH.out]; exact congrArg Ending.returned (congrArg (fun x => Value.tuple #[.int .u64 x, .int .i64 ((k : Int) + 1), .int .i64 0]) HV.out), rfl⟩
          · rw [if_neg h128] at H1
            have HH := Lib.hid H1
            clear H H1 hbad hv hl hf hm
            rcases hg with ⟨t1, t2, t3, t4⟩ | ⟨t1, t2, t3⟩ | ⟨t1, t2⟩
            · exfalso; omega
            all_goals
              go_wp2
              go_round
              case rel => exact ⟨k + 1, _, by omega, by omega, HL.out, HH, by go_num, congrArg (Value.int .u64) HV.out⟩
              case measure => simp [intOf]; omega
      · have H1 := H.out
        rw [List.drop_of_length_le (by simpa using hk), hf, rdN] at H1
        have HH := Lib.hid H1
        have h2 : ((k : Int) == (s.size : Int)) = true := by simp; omega
        clear H H1 hf hm
        go_wp2
        refine bodyPost_ret (results_tmp3 rfl _ _ _) rfl ?_
        exact ⟨by rw [HH.out]; rfl, rfl⟩
    · obtain rfl : k = 10 := by omega
      have HH : Hid (rd s.data.toList = (0, 0, 4)) := H
      clear H
      go_wp2
      refine bodyPost_ret (results_tmp3 rfl _ _ _) rfl ?_
      exact ⟨by rw [HH.out]; rfl, rfl⟩
theorem u8_info : (Try.prog.info? 5).map (fun i => (i.zero, i.size, i.bytes)) = some (some (.int .u8 0), 1, 1) := by kernel_rfl
set_option maxHeartbeats 1000000 in
set_option maxRecDepth 100000 in
theorem put_any (base : Nat) (v : Value) (l : List UInt8) (n : Nat) (w : World) (hn : n < 18446744073709551616) (hl : l.length ≤ 70368744177664) (hbuf : Buf 5 w base v l) (hbase : base ≤ w.heap.size) :
    Calls Try.prog 20 #[v, .int .u64 n] w fun e w' => ∃ v', e = .returned v' ∧ Buf 5 w' base v' (l ++ putN n) ∧ Below base w w' := by
  have hn' := putN_len10 n hn
  go_enter Try.func20, Try.ntmps20
  go_wp2
  go_loopw [0,1] (fun b i wr => ∃ (v' : Value) (l' : List UInt8) (m : Nat), b = v' ∧ i = .int .u64 m ∧ m < 18446744073709551616 ∧ Buf 5 wr base v' l' ∧ Hid (l' ++ putN m = l ++ putN n) ∧ Below base w wr ∧ l'.length ≤ l.length + 10) (fun _ i _ => (intOf i).toNat)
  case atStart => exact ⟨v, l, n, rfl, rfl, hn, hbuf, rfl, Below.refl _ _, by omega⟩
  case round =>
    obtain ⟨v', l', m, rfl, rfl, hm, hb, H, hbel, hlen⟩ := hrel
    have H1 := H.out
    by_cases h128 : m < 128
    · have hv := Lib.hid (put_last_val m h128)
      rw [putN_lt m h128] at H1
      have HH := Lib.hid H1
      clear H1 H
      go_wp2_with (at_builtin; refine wpList_buf_append _ rfl _ _ 48 rfl 5 Try.underlying48 u8_info base _ l' rfl (hb.alloc _) ⟨wr.heap.size, 0, none⟩ 1 1 [UInt8.ofNat m] rfl rfl (cells_new _ _ _ _ (congrArg (fun x => [Value.int .u8 x]) hv.out)) (by simp; omega) (by simp; have := hbel.size; omega) ?_)
      intro v2 w2 hb2 hbel2
      go_wp2
      go_ret
      exact ⟨v2, rfl, HH.out ▸ hb2, (hbel.alloc (by have := hbel.size; omega) _).trans hbel2⟩
    · have hv := Lib.hid (put_step_val m)
      rw [putN_ge m h128] at H1
      have HH := Lib.hid H1
      clear H1 H
      go_wp2_with (at_builtin; refine wpList_buf_append _ rfl _ _ 48 rfl 5 Try.underlying48 u8_info base _ l' rfl (hb.alloc _) ⟨wr.heap.size, 0, none⟩ 1 1 [hiB m] rfl rfl (cells_new _ _ _ _ (congrArg (fun x => [Value.int .u8 x]) hv.out)) (by simp; omega) (by simp; have := hbel.size; omega) ?_)
      intro v2 w2 hb2 hbel2
      go_wp2
      go_roundw
      case rel => exact ⟨v2, l' ++ [hiB m], m / 128, rfl, by go_num, by omega, hb2, by show _ = _; rw [List.append_assoc]; exact HH.out, (hbel.alloc (by have := hbel.size; omega) _).trans hbel2, by have := congrArg List.length HH.out; have h3 := putN_pos (m / 128); simp only [List.length_append, List.length_cons, List.length_nil] at this ⊢; omega⟩
      case measure => simp [intOf]; omega

set_option maxHeartbeats 1000000 in
set_option maxRecDepth 100000 in
theorem number_any (n : Nat) (w : World) (hn : n < 18446744073709551616) :
    Calls Try.prog 60 #[.int .u64 n] w fun e w' => e = .returned (.string ⟨(putN n).toArray⟩) ∧ Below w.heap.size w w' := by
  go_enter Try.func60, Try.ntmps60
  go_wp2_with (go_at_call 20; refine (put_any w.heap.size _ [] n _ hn (by simp) (Buf.nil _ _ _) (Nat.le_refl _)).mono ?_; rintro e w1 ⟨v1, rfl, hb, hbel⟩; have hcv := buf_string (P := Try.prog) (U := 5) (src := 48) (dst := 9) Try.underlying48 Try.underlying5 Try.underlying9 hb)
  go_ret
  exact ⟨by simp, hbel⟩
end Go.Proofs.Ytnmokjgnbcfabaa
