/-
  Frames: more of the contracts of Encode and Decode.
-/
import Derived.Test.YtbjngeaoimaooaaFrameE
import Derived.Test.YtbjngeaoimaooaaFrameD
import Derived.Test.YtbjngeaoimaooaaFrameL
set_option linter.unusedVariables false
set_option linter.unusedSimpArgs false
namespace Go.Proofs.Ytbjngeaoimaooaa
open Go.RowKit
theorem bstr_list (l : List UInt8) : (bstr l).data.toList = l := by simp [bstr]
theorem bstr_size (l : List UInt8) : (bstr l).size = l.length := by simp [bstr, ByteArray.size]
theorem bstr_self (s : ByteArray) : bstr s.data.toList = s := by cases s; simp [bstr]
theorem bstr_inj {a b : List UInt8} (h : bstr a = bstr b) : a = b := by
  have := congrArg (fun s : ByteArray => s.data.toList) h
  simpa [bstr] using this
theorem bstr_toList (l : List UInt8) : (bstr l).toList = l := by rw [ByteArray.toList_eq, bstr_list]
def frV (v k : Int) (pl : ByteArray) : Value := .agg #[.int .i64 v, .int .i64 k, .string pl]

theorem zero_frame (W : World) : (zeroValue 34).run Try.prog W = .ok (.agg zfr) W := by
  obtain ⟨i0, hi, hz0, hz1, hz2⟩ := info_parts frame_info
  simp [zeroValue, typeInfo, hi, hz0]
theorem frA_one (v k : Int) (pl : ByteArray) : (#[Value.int .i64 v, .int .i64 k, .string pl] : Array Value).all (·.oneCell') = true := by simp [Value.oneCell']

theorem zfr_set (a b c : Value) : ((zfr.setIfInBounds 0 a).setIfInBounds 1 b).setIfInBounds 2 c = #[a, b, c] := rfl
theorem encode_good (v k : Nat) (pl : List UInt8) (hv : 1 ≤ v ∧ v ≤ 3) (hk : 1 ≤ k ∧ k ≤ 4) (hp : pl.length ≤ 6000) (w : World) :
    Calls Try.prog 14 #[.agg #[.int .i64 (v : Int), .int .i64 (k : Int), .string (bstr pl)]] w fun e w' => e = .returned (.tuple #[.string (bstr (wireF v k pl)), .int .i64 0]) ∧ Below w.heap.size w w' := by
  have h := encode_any v k (bstr pl) w (by rw [bstr_size]; omega) (by omega) (by omega) (by omega) (by omega)
  rw [bstr_list] at h
  have e : encF v k pl = (wireF v k pl, 0) := by
    unfold encF; rw [if_pos (by unfold goodF; omega), if_neg (by omega)]; simp
  rw [e] at h
  exact h
theorem decode_wire (v k : Nat) (pl more : List UInt8) (hv : 1 ≤ v ∧ v ≤ 3) (hk : 1 ≤ k ∧ k ≤ 4) (hp : pl.length ≤ 6000) (s : ByteArray) (hs : s.data.toList = wireF v k pl ++ more) (hz : s.size ≤ 4611686018427387904) (w : World) :
    Calls Try.prog 15 #[.string s] w fun e w' => e = .returned (.tuple #[.agg #[.int .i64 (v : Int), .int .i64 (k : Int), .string (bstr pl)], .int .i64 ((wireF v k pl).length : Int), .int .i64 0]) ∧ Below w.heap.size w w' := by
  have h := decode_any s w hz
  rw [hs, decF_wire v k pl more hv hk hp] at h
  exact h

theorem decode_bad (s : ByteArray) (hz : s.size ≤ 4611686018427387904) (he : (decF s.data.toList).e ≠ 0) (w : World) :
    Calls Try.prog 15 #[.string s] w fun e w' => e = .returned (.tuple #[.agg #[.int .i64 0, .int .i64 0, .string ByteArray.empty], .int .i64 0, .int .i64 ((decF s.data.toList).e : Int)]) ∧ Below w.heap.size w w' := by
  have h := decode_any s w hz
  rw [decF_err _ he] at h
  exact h
theorem decode_good (s : ByteArray) (hz : s.size ≤ 4611686018427387904) (he : (decF s.data.toList).e = 0) (w : World) :
    Calls Try.prog 15 #[.string s] w fun e w' => e = .returned (.tuple #[.agg #[.int .i64 ((decF s.data.toList).ver : Int), .int .i64 ((decF s.data.toList).kind : Int), .string (bstr (decF s.data.toList).pl)], .int .i64 ((decF s.data.toList).n : Int), .int .i64 0]) ∧ Below w.heap.size w w' := by
  have h := decode_any s w hz
  unfold decV at h
  rw [he] at h
  exact h
theorem encode_bad (v k : Int) (pl : ByteArray) (v1 : -9223372036854775808 ≤ v) (v2 : v ≤ 9223372036854775807) (k1 : -9223372036854775808 ≤ k) (k2 : k ≤ 9223372036854775807) (hs : pl.size ≤ 4611686018427387904)
    (hb : ¬ (goodF v k ∧ pl.size ≤ 6000)) : ∃ x : Nat, (x = 1 ∨ x = 2) ∧ ∀ w, Calls Try.prog 14 #[.agg #[.int .i64 v, .int .i64 k, .string pl]] w fun e w' => e = .returned (.tuple #[.string ⟨#[]⟩, .int .i64 (x : Int)]) ∧ Below w.heap.size w w' := by
  have hl : pl.data.toList.length = pl.size := by simp
  by_cases hg : goodF v k
  · refine ⟨2, .inr rfl, fun w => ?_⟩
    have h := encode_any v k pl w hs v1 v2 k1 k2
    have e : encF v k pl.data.toList = ([], 2) := by unfold encF; rw [if_pos hg, if_pos (Nat.lt_of_not_le fun h => hb ⟨hg, by omega⟩)]
    rw [e] at h; exact h
  · refine ⟨1, .inl rfl, fun w => ?_⟩
    have h := encode_any v k pl w hs v1 v2 k1 k2
    have e : encF v k pl.data.toList = ([], 1) := by unfold encF; rw [if_neg hg]
    rw [e] at h; exact h
theorem zero_frame_lit (W : World) : (zeroValue 34).run Try.prog W = .ok (.agg #[.int .i64 0, .int .i64 0, .string ByteArray.empty]) W := zero_frame W
theorem cellsFrame : Try.prog.cellsOf 34 = 3 := by kernel_rfl
theorem frame_sized {H : Type} {ts : List TypeId} {ds : List (DataW H)} {a b : Int} {s : ByteArray} (hsz : (DataW.weightsEach Try.prog ts ds).all (· ≤ reachBytes) = true) {j : Nat} (ht : ts[j]? = some 34)
    (hd : ds[j]? = some (.agg [.lit (.int .i64 a), .lit (.int .i64 b), .lit (.string s.data.toList)])) : s.size ≤ 140737488351232 := by
  have hm := DataW.weights_mem_each (P := Try.prog) ht hd s.data.toList.length (by simp [DataW.weights, Try.underlying34, DataW.weightsEach])
  have := of_decide_eq_true (List.all_eq_true.1 hsz _ hm)
  simpa [reachBytes] using this
end Go.Proofs.Ytbjngeaoimaooaa
