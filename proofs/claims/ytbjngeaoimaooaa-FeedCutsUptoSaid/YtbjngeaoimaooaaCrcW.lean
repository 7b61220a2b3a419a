/-
  Contracts of the checksum.
-/
import Derived.Test.YtbjngeaoimaooaaRows
import Derived.Test.YtbjngeaoimaooaaCrcP
import Derived.Test.YtbjngeaoimaooaaBase
set_option linter.unusedVariables false
set_option linter.unusedSimpArgs false
namespace Go.Proofs.Ytbjngeaoimaooaa
open Go.RowKit
def u32z : Value := .int .u32 0
def zeros : Array Value := Array.replicate 256 u32z
def tabV (k : Nat) : Array Value := Array.ofFn fun i : Fin 256 => if i.val < k then Value.int .u32 (st8 i.val : Int) else u32z
theorem tabV_size (k : Nat) : (tabV k).size = 256 := by simp [tabV]
theorem tabV_zero : zeros = tabV 0 := by
  apply Array.ext
  · simp [zeros, tabV]
  · intro i h1 h2; simp [zeros, tabV]
theorem tabV_set (k : Nat) (hk : k < 256) : (tabV k).setIfInBounds k (.int .u32 (st8 k : Int)) = tabV (k + 1) := by
  apply Array.ext
  · simp [tabV]
  · intro i h1 h2
    have hi : i < 256 := by simpa [tabV] using h2
    rw [Array.getElem_setIfInBounds (by simpa [tabV] using hi)]
    by_cases h : k = i
    · subst h; simp [tabV]
    · simp only [h, if_false, tabV, Array.getElem_ofFn]
      by_cases h3 : i < k
      · rw [if_pos h3, if_pos (by omega)]
      · rw [if_neg h3, if_neg (by omega)]
theorem tabV_get (k i : Nat) (hi : i < 256) : (tabV k)[i]? = some (if i < k then Value.int .u32 (st8 i : Int) else u32z) := by
  rw [Array.getElem?_eq_getElem (by simpa [tabV] using hi)]; simp [tabV]
theorem tabV_one (k : Nat) : (tabV k).all (·.oneCell') = true := by
  rw [Array.all_eq_true]
  intro i h
  have hi : i < 256 := by simpa [tabV] using h
  simp only [tabV, Array.getElem_ofFn]
  split <;> rfl
theorem table_info : (Try.prog.info? 61).map (fun i => (i.zero, i.size)) = some (some (.agg zeros), 256) := by kernel_rfl
theorem table_size (k : Nat) : (Try.prog.info? 61).map (·.size) = some (tabV k).size := by rw [tabV_size]; exact (zero_of_info table_info).2
theorem zero_table (W : World) : (zeroValue 61).run Try.prog W = .ok (.agg (tabV 0)) W := by rw [(zero_of_info table_info).1, tabV_zero]
theorem and1_val (x : Nat) (hx : x < 4294967296) : bits .and .u32 (x : Int) 1 = ((x % 2 : Nat) : Int) := by
  have := u32_and_nat x 1 hx (by omega)
  rw [show ((1 : Nat) : Int) = 1 from rfl] at this
  rw [this, Nat.and_one_is_mod]
theorem st1_val (x : Nat) (hx : x < 4294967296) : bits .xor .u32 ((x : Int) / 2) (((x % 2 : Nat) : Int) * 3988292384) = ((st1 x : Nat) : Int) := by
  have h2 : (x : Int) / 2 = ((x / 2 : Nat) : Int) := by omega
  have h3 : ((x % 2 : Nat) : Int) * 3988292384 = ((x % 2 * 3988292384 : Nat) : Int) := by omega
  rw [h2, h3, u32_xor_nat _ _ (by omega) (by omega)]
  rfl
set_option maxHeartbeats 1000000 in
set_option maxRecDepth 100000 in
theorem made_any (w : World) :
    Calls Try.prog 26 #[] w fun e w' => e = .returned (.agg (tabV 256)) ∧ Below w.heap.size w w' := by
  have hz := zero_table
  go_enter Try.func26, Try.ntmps26
  go_wp2
  go_loopw [4] (fun i wr => ∃ k : Nat, k ≤ 256 ∧ i = .int .i64 k ∧ Blk wr w.heap.size 61 (tabV k) ∧ Below w.heap.size w wr) (fun i _ => 256 - (intOf i).toNat)
  case atStart => exact ⟨0, by omega, rfl, Blk.new w _ _, (Below.refl _ _).alloc (Nat.le_refl _) _⟩
  case round =>
    obtain ⟨k, hk, rfl, hb, hbel⟩ := hrel
    clear hz
    by_cases hlt : k < 256
    · go_wp2
      go_loop [2, 9] (fun x j => ∃ (i : Nat), i ≤ 8 ∧ j = .int .i64 i ∧ x = .int .u32 (stk i k)) (fun _ j => 8 - (intOf j).toNat)
      case atStart => exact ⟨0, by omega, rfl, rfl⟩
      case round =>
        obtain ⟨i, hi, rfl, rfl⟩ := hrel
        have hx := stk_lt i k (by omega)
        by_cases h8 : i < 8
        · have hand := and1_val _ hx
          have hmod : stk i k % 2 < 2 := Nat.mod_lt _ (by omega)
          have HV := Lib.hid (st1_val _ hx)
          have HS := Lib.hid (stk_succ i k)
          go_wp2
          go_round
          case rel => exact ⟨i + 1, by omega, by go_num, congrArg (Value.int .u32) (by rw [HS.out]; exact HV.out)⟩
          case measure => simp [intOf]; omega
        · obtain rfl : i = 8 := by omega
          have hcell : wr.cell? ⟨w.heap.size, k, none⟩ = some u32z := by rw [hb.cell, tabV_get k k hlt, if_neg (by omega)]
          have hfr := hb.frozen k
          go_wp2
          go_roundw
          case rel =>
            refine ⟨k + 1, by omega, by go_num, ?_, hbel.setCell (Nat.le_refl _) _⟩
            have := hb.set_ k (.int .u32 (stk 8 k : Int))
            rw [show stk 8 k = st8 k from rfl, tabV_set k hlt] at this
            exact this
          case measure => simp [intOf]; omega
    · obtain rfl : k = 256 := by omega
      go_wp2_with (first
        | (refine wpList_load_blk rfl _ _ rfl w.heap.size rfl _ _ hb _ Try.underlying61 rfl (table_size 256) ?_)
        | (refine wpList_store_blk rfl _ _ _ rfl w.heap.size rfl _ _ _ hb rfl (table_size 256) rfl (tabV_one 256) ?_))
      refine bodyPost_ret (results_cell1 rfl _ rfl (hb.setRow _) Try.underlying61 rfl (table_size 256)) rfl ?_
      exact ⟨rfl, below_setRow hbel (Nat.le_refl _) _⟩
theorem index_val (x : Nat) (c : UInt8) : bits .xor .u8 ((x : Int) % 256) (c.toNat : Int) = ((x % 256 ^^^ c.toNat : Nat) : Int) := by
  rw [show (x : Int) % 256 = ((x % 256 : Nat) : Int) by omega, u8_xor_nat _ _ (by omega) c.toNat_lt]
theorem upd_val (x : Nat) (hx : x < 4294967296) (c : UInt8) : bits .xor .u32 ((x : Int) / 256) ((st8 (x % 256 ^^^ c.toNat) : Nat) : Int) = ((upd x c : Nat) : Int) := by
  have hb : x % 256 ^^^ c.toNat < 4294967296 := xor_lt32 (by omega) (byte_lt32 c)
  rw [show (x : Int) / 256 = ((x / 256 : Nat) : Int) by omega, u32_xor_nat _ _ (by omega) (st8_lt _ hb), upd_table]
theorem not_val (r : Nat) (hr : r < 4294967296) : bits .xor .u32 IntKind.u32.max (r : Int) = ((4294967295 - r : Nat) : Int) := by
  have e : IntKind.u32.max = ((4294967295 : Nat) : Int) := by decide
  rw [e, u32_xor_nat _ _ (by omega) hr, crc_xor r hr]
set_option maxHeartbeats 1000000 in
set_option maxRecDepth 100000 in
theorem sum_any (s : ByteArray) (w : World) (hs : s.size ≤ 4611686018427387904) :
    Calls Try.prog 25 #[.string s] w fun e w' => e = .returned (.int .u32 (crc s.data.toList)) ∧ Below w.heap.size w w' := by
  have hz := zero_table
  go_enter Try.func25, Try.ntmps25
  go_wp2_with (first
    | (go_at_call 26; refine (made_any _).mono ?_; rintro e w1 ⟨rfl, hb1⟩)
    | (refine wpList_store_blk rfl _ _ _ rfl w1.heap.size rfl _ _ _ (Blk.new w1 _ _) rfl (table_size 256) (by rw [tabV_size, tabV_size]) (tabV_one 256) ?_))
  have hblk : Blk ((w1.alloc (.cells (tabV 0) 61)).setRow w1.heap.size (tabV 256)) w1.heap.size 61 (tabV 256) := (Blk.new w1 _ _).setRow _
  have hbel : Below w.heap.size w ((w1.alloc (.cells (tabV 0) 61)).setRow w1.heap.size (tabV 256)) := below_setRow (hb1.alloc hb1.size _) hb1.size _
  generalize (w1.alloc (.cells (tabV 0) 61)).setRow w1.heap.size (tabV 256) = W at *
  generalize w1.heap.size = g at *
  clear hz hb1
  go_loop [4, 9] (fun x i => ∃ k r : Nat, k ≤ s.size ∧ r < 4294967296 ∧ Hid (reg 4294967295 s.data.toList = reg r (s.data.toList.drop k)) ∧ x = .int .u32 r ∧ i = .int .i64 k) (fun _ i => s.size - (intOf i).toNat)
  case atStart => exact ⟨0, 4294967295, by omega, by omega, rfl, rfl, rfl⟩
  case round =>
    obtain ⟨k, r, hk, hr, H, rfl, rfl⟩ := hrel
    by_cases hlt : k < s.size
    · have H1 := H.out
      rw [drop_cons s k hlt, reg_cons] at H1
      have hc := (s[k]).toNat_lt
      have e1 := index_val r s[k]
      have HV := upd_val r hr s[k]
      have hj : r % 256 ^^^ (s[k]).toNat < 256 := Nat.xor_lt_two_pow (n := 8) (by omega) hc
      have hul := Lib.hid (upd_lt r s[k] hr)
      have HH := Lib.hid H1
      clear H H1
      generalize r % 256 ^^^ (s[k]).toNat = j at *
      have hcell : W.cell? ⟨g, j, none⟩ = some (.int .u32 (st8 j : Int)) := by rw [hblk.cell, tabV_get 256 j hj, if_pos hj]
      have HV2 := Lib.hid HV
      clear HV
      go_wp2
      go_round
      case rel => exact ⟨k + 1, upd r s[k], by omega, hul.out, HH, congrArg (Value.int .u32) HV2.out, by go_num⟩
      case measure => simp [intOf]; omega
    · obtain rfl : k = s.size := by omega
      have H1 := H.out
      rw [List.drop_of_length_le (by simp)] at H1
      have HH : Hid (crc s.data.toList = 4294967295 - r) := by show _ = _; unfold crc; rw [H1]; rfl
      clear H H1
      go_wp2
      go_ret
      exact ⟨congrArg (fun x => Ending.returned (.int .u32 x)) (by rw [HH.out]; exact not_val r hr), hbel⟩
theorem sum_check (w : World) :
    Calls Try.prog 25 #[.string ⟨#[49, 50, 51, 52, 53, 54, 55, 56, 57]⟩] w fun e w' => e = .returned (.int .u32 3421780262) ∧ Below w.heap.size w w' := by
  have h := sum_any ⟨#[49, 50, 51, 52, 53, 54, 55, 56, 57]⟩ w (by decide)
  have e : (ByteArray.mk #[49, 50, 51, 52, 53, 54, 55, 56, 57]).data.toList = [49, 50, 51, 52, 53, 54, 55, 56, 57] := rfl
  rw [e, crc_check] at h
  exact h
end Go.Proofs.Ytbjngeaoimaooaa
