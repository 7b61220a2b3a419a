/-
  The law SumMixes of package brackenkeep: for every input it answers true.
-/
import Derived.Test.YtibhffdimcmcoaaRows
import Derived.Test.YtibhffdimcmcoaaBase
import Derived.Test.YtibhffdimcmcoaaPrimW
import Derived.Test.YtibhffdimcmcoaaCrcW
import Derived.Laws.Cover1
set_option linter.unusedVariables false
set_option linter.unusedSimpArgs false
namespace Go.Proofs.Ytibhffdimcmcoaa.sumMixes
open Go.ChangeShapes Go.WideShapes Go.ChangeAt Go.RowKit Go.Joins
open Go.ChangeMaps (open_string)
theorem run_make_rowN {P : Program} (t e : TypeId) (i : TypeInfo) (z : Value) (ht : P.underlying t = some (.slice e)) (hi : P.info? e = some i) (hz : i.zero = some z)
    (kl kc : IntKind) (n c : Nat) (hnc : n ≤ c) (hbytes : i.bytes * c ≤ 281474976710656) (h63 : c ≤ 9223372036854775807) (w : World) :
    (Instr.makeSlice t (.int kl (n : Int)) (.int kc (c : Int))).run P w = .ok (.slice (some ⟨w.heap.size, 0, none⟩) n c) (w.alloc (.cells (madeCells z.cells (c * i.size)) e)) := by
  have hb : (i.bytes : Int) * (c : Int) ≤ 281474976710656 := by
    have h : ((i.bytes * c : Nat) : Int) ≤ 281474976710656 := by omega
    rwa [Int.natCast_mul] at h
  have hr := run_make (P := P) w t e i z ht hi hz kl kc n c (by omega) (by omega) hb (by omega)
  simp only [Int.toNat_natCast] at hr
  exact hr
theorem min3 (n : Nat) (x y z : Nat) (h : n = min (min x y) z) (ts : Array TypeId) (t : TypeId) (w : World) :
    (Builtin.min_ ts t #[.int .i64 (x : Int), .int .i64 (y : Int), .int .i64 (z : Int)]).run Try.prog w = .ok (.int .i64 (n : Int)) w := by
  rw [run_min_int3]
  congr 2
  split <;> split <;> omega
def cellsM (l : List UInt8) (n k : Nat) : Array Value := ((bytesV l).take k ++ List.replicate (n - k) (Value.int .u8 0)).toArray
theorem cellsM_zero (l : List UInt8) (n : Nat) : madeCells (Value.cells (.int .u8 0)) (n * 1) = cellsM l n 0 := by
  have h := toList_madeCells_one (Value.int .u8 0) n
  apply Array.ext'
  rw [Nat.mul_one]
  show (madeCells #[Value.int .u8 0] n).toList = _
  rw [h]; simp [cellsM]
theorem cellsM_get (l : List UInt8) (n k : Nat) (hl : l.length = n) (hk : k < n) : (cellsM l n k)[k]? = some (.int .u8 0) := by
  simp only [cellsM, List.getElem?_toArray]
  rw [List.getElem?_append_right (by simp [bytesV]; omega)]
  have e : k - ((bytesV l).take k).length = 0 := by simp [bytesV]; omega
  rw [e, List.getElem?_replicate, if_pos (by omega)]
theorem cellsM_set (l : List UInt8) (n k : Nat) (hl : l.length = n) (hk : k < n) (v : Value) (hv : v = .int .u8 ((l[k]'(by omega)).toNat : Int)) : (cellsM l n k).setIfInBounds k v = cellsM l n (k + 1) := by
  subst hv
  apply Array.ext'
  simp only [cellsM, List.setIfInBounds_toArray]
  have e1 : ((bytesV l).take k).length = k := by simp [bytesV]; omega
  rw [List.set_append_right _ _ (by rw [e1]; exact Nat.le_refl _), e1, Nat.sub_self]
  have e2 : n - k = (n - (k + 1)) + 1 := by omega
  rw [e2, List.replicate_succ, List.set_cons_zero]
  rw [List.take_add_one]
  have e3 : (bytesV l)[k]? = some (.int .u8 ((l[k]'(by omega)).toNat : Int)) := by simp [bytesV, hl, hk]
  rw [e3]; simp
theorem cellsM_full (l : List UInt8) (n : Nat) (hl : l.length = n) : cellsM l n n = (bytesV l).toArray := by
  unfold cellsM
  rw [Nat.sub_self, List.take_of_length_le (by simp [bytesV, hl])]; simp
theorem buf_of_blk {w : World} {g : Nat} {l : List UInt8} {U : TypeId} (h : Blk w g U (bytesV l).toArray) (hl : l.length ≤ 9223372036854775807) : Buf U w g (.slice (some ⟨g, 0, none⟩) l.length l.length) l :=
  ⟨by simp [bytesV], .inr ⟨g, l.length, (bytesV l).toArray, rfl, Nat.le_refl _, h, Nat.le_refl _, by simpa [maxLen] using hl, by simp [bytesV], by simp only [Nat.mul_one]; exact List.take_of_length_le (by simp [bytesV])⟩⟩
theorem mix_length : ∀ (a b c : List UInt8), a.length = b.length → b.length = c.length → (mix a b c).length = a.length
  | [], [], [], _, _ => rfl
  | x :: a, y :: b, z :: c, h1, h2 => by simp only [mix, List.length_cons]; rw [mix_length a b c (by simpa using h1) (by simpa using h2)]
theorem mix_get : ∀ (a b c : List UInt8) (k : Nat) (h1 : a.length = b.length) (h2 : b.length = c.length) (h : k < a.length) (h' : k < (mix a b c).length),
    (mix a b c)[k] = a[k] ^^^ b[k]'(by omega) ^^^ c[k]'(by omega)
  | x :: a, y :: b, z :: c, 0, _, _, _, _ => rfl
  | x :: a, y :: b, z :: c, k + 1, h1, h2, h, h' => by
    simp only [mix, List.getElem_cons_succ]
    exact mix_get a b c k (by simpa using h1) (by simpa using h2) (by simpa using h) (by simpa [mix] using h')
theorem xor3_val (x y z : UInt8) : bits .xor .u8 (bits .xor .u8 (x.toNat : Int) (y.toNat : Int)) (z.toNat : Int) = ((x ^^^ y ^^^ z).toNat : Int) := by
  rw [u8_xor_nat _ _ x.toNat_lt y.toNat_lt, ← UInt8.toNat_xor, u8_xor_nat _ _ (x ^^^ y).toNat_lt z.toNat_lt, ← UInt8.toNat_xor]
theorem crc3_val (x y z : List UInt8) : bits .xor .u32 (bits .xor .u32 (crc x : Int) (crc y : Int)) (crc z : Int) = ((crc x ^^^ crc y ^^^ crc z : Nat) : Int) := by
  rw [u32_xor_nat _ _ (crc_lt x) (crc_lt y), u32_xor_nat _ _ (xor_lt32 (crc_lt x) (crc_lt y)) (crc_lt z)]
set_option maxHeartbeats 2000000 in
set_option maxRecDepth 100000 in
theorem walk (a : ByteArray) (ha : a.size ≤ 140737488351232) (b : ByteArray) (hb : b.size ≤ 140737488351232) (c : ByteArray) (hc : c.size ≤ 140737488351232) (w : World) :
    Calls Try.prog 10 #[.string a, .string b, .string c] w fun e w' => e = .returned (.bool true) ∧ Below w.heap.size w w' := by
  obtain ⟨n, hn⟩ : ∃ n : Nat, n = min (min a.size b.size) c.size := ⟨_, rfl⟩
  have hna : n ≤ a.size := by omega
  have hnb : n ≤ b.size := by omega
  have hnc : n ≤ c.size := by omega
  have hmin := min3 n a.size b.size c.size hn #[3, 3, 3] 3
  clear hn
  obtain ⟨i0, hi, hz, hz1, hz2⟩ := info_parts u8_info
  have hmk := fun W => run_make_rowN (P := Try.prog) 39 5 i0 _ Try.underlying39 hi hz .i64 .i64 n n (Nat.le_refl _) (by rw [hz2]; omega) (by omega) W
  have e1 : ∀ s : ByteArray, n ≤ s.size → (s.extract 0 n).size = n := fun s h => by rw [ByteArray.size_extract]; omega
  have ea := e1 a hna
  have eb := e1 b hnb
  have ec := e1 c hnc
  have hnM : n ≤ 140737488351232 := by omega
  have ia : (n : Int) ≤ a.size := by omega
  have ib : (n : Int) ≤ b.size := by omega
  have ic : (n : Int) ≤ c.size := by omega
  clear e1
  go_enter Try.func10, Try.ntmps10
  go_wp2_with fail
  go_big_region
  generalize a.extract 0 n = A at *
  generalize b.extract 0 n = B at *
  generalize c.extract 0 n = C at *
  clear hmin hna hnb hnc ia ib ic ha hb hc
  have la : A.data.toList.length = n := by simpa using ea
  have lb : B.data.toList.length = n := by simpa using eb
  have lc : C.data.toList.length = n := by simpa using ec
  obtain ⟨m, hm⟩ : ∃ m, m = mix A.data.toList B.data.toList C.data.toList := ⟨_, rfl⟩
  have hml : m.length = n := by rw [hm, mix_length _ _ _ (by omega) (by omega), la]
  have hmg : ∀ k (h : k < n), m[k] = A[k] ^^^ B[k] ^^^ C[k] := fun k h => by
    subst hm; exact mix_get _ _ _ k (by omega) (by omega) (by omega) (by omega)
  have hcrc : crc m = crc A.data.toList ^^^ crc B.data.toList ^^^ crc C.data.toList := by rw [hm, crc_mix _ _ _ (by omega) (by omega)]
  have HC := Lib.hid hcrc
  have HG := Lib.hid hmg
  clear hcrc hmg hm
  have hmk2 : ∀ W, (Instr.makeSlice 39 (.int .i64 (n : Int)) (.int .i64 (n : Int))).run Try.prog W = .ok (.slice (some ⟨W.heap.size, 0, none⟩) n n) (W.alloc (.cells (cellsM m n 0) 5)) := fun W => by rw [hmk W, hz1, cellsM_zero m n]
  clear hmk
  go_wp2_with fail
  go_loopw [30] (fun i wr => ∃ k : Nat, k ≤ n ∧ i = .int .i64 k ∧ Blk wr w.heap.size 5 (cellsM m n k) ∧ Below w.heap.size w wr) (fun i _ => n - (intOf i).toNat)
  case atStart => exact ⟨0, by omega, rfl, Blk.new w.drew _ _, ((Below.refl _ w).drew).alloc (Nat.le_refl _) _⟩
  case round =>
    obtain ⟨k, hk, rfl, hblk, hbel⟩ := hrel
    clear hmk2
    by_cases hlt : k < n
    · have ka : (k : Int) < A.size := by omega
      have kb : (k : Int) < B.size := by omega
      have kc : (k : Int) < C.size := by omega
      have ka' : k < A.size := by omega
      have kb' : k < B.size := by omega
      have kc' : k < C.size := by omega
      have hcell : wr.cell? ⟨w.heap.size, k, none⟩ = some (.int .u8 0) := by rw [hblk.cell, cellsM_get m n k hml hlt]
      have hcell2 : wr.drew.cell? ⟨w.heap.size, k, none⟩ = some (.int .u8 0) := hcell
      have hfr : wr.frozen? ⟨w.heap.size, k, none⟩ = false := hblk.frozen k
      have hfr2 : wr.drew.frozen? ⟨w.heap.size, k, none⟩ = false := hfr
      have hx := Lib.hid (xor3_val A[k] B[k] C[k])
      go_wp2_with fail
      go_big_region
      go_wp2
      go_roundw
      case rel =>
        refine ⟨k + 1, by omega, by go_num, ?_, (hbel.drew).setCell (Nat.le_refl _) _⟩
        have h2 : Blk (wr.drew.setCell ⟨w.heap.size, k, none⟩ (.int .u8 (bits .xor .u8 (bits .xor .u8 (A[k].toNat : Int) (B[k].toNat : Int)) (C[k].toNat : Int)))) w.heap.size 5 _ := Blk.set_ (w := wr.drew) hblk k _
        rw [cellsM_set m n k hml hlt _ (by rw [hx.out, HG.out k hlt])] at h2
        exact h2
      case measure => simp [intOf]; omega
    · obtain rfl : k = n := by omega
      rw [cellsM_full m k hml] at hblk
      have hbuf := buf_of_blk hblk (by omega)
      rw [hml] at hbuf
      have hcv := buf_string (P := Try.prog) (src := 39) (dst := 9) Try.underlying39 Try.underlying5 Try.underlying9 hbuf
      have hms : (⟨m.toArray⟩ : ByteArray).size = k := by rw [← hml]; rfl
      have hcvw : ∀ w1, Below wr.heap.size wr w1 → (convert 39 9 (.slice (some ⟨w.heap.size, 0, none⟩) k k)).run Try.prog w1 = .ok (.string ⟨m.toArray⟩) w1 := fun w1 h1 => by
        have hb2 := buf_of_blk (hblk.below h1 hblk.lt) (by omega)
        rw [hml] at hb2
        exact buf_string (P := Try.prog) (src := 39) (dst := 9) Try.underlying39 Try.underlying5 Try.underlying9 hb2
      have HCV := Lib.hid hcvw
      clear hcv hcvw hbuf
      go_wp2_with fail
      refine (told_any _).mono ?_
      rintro e w1 ⟨rfl, rfl⟩
      go_wp2_with fail
      refine (sum_check _).mono ?_
      rintro e w2 ⟨rfl, hb2⟩
      have hcv := HCV.out w2 hb2
      go_wp2_with fail
      refine (sum_any _ _ (by omega)).mono ?_
      rintro e w3 ⟨rfl, hb3⟩
      go_wp2_with fail
      refine (sum_any _ _ (by omega)).mono ?_
      rintro e w4 ⟨rfl, hb4⟩
      go_wp2_with fail
      refine (sum_any _ _ (by omega)).mono ?_
      rintro e w5 ⟨rfl, hb5⟩
      go_wp2_with fail
      refine (sum_any _ _ (by omega)).mono ?_
      rintro e w6 ⟨rfl, hb6⟩
      go_wp2_with fail
      go_ret
      refine ⟨congrArg (fun b => Ending.returned (.bool b)) ?_, hbel.trans ((bthen (bthen (bthen (bthen hb2 hb3) hb4) hb5) hb6).mono hbel.size)⟩
      rw [crc3_val, HC.out.symm]
      simp

theorem own : ownKnob Try.prog.godebug = none := by kernel_rfl
theorem laid : laidOutB Try.prog = true := by kernel_rfl
set_option maxRecDepth 100000 in
theorem contract (H : Type) (enc : TypeId × Value → H) (W : World) (base : Nat) (args : Array Value) (ds gs : List (DataW H)) (before : List MemPlace)
    (hval0 : ∀ (j : Nat) t v, Try.f10.params[j]? = some t → args[j]? = some v → Value.okWide Try.prog W .any base t v)
    (hW : DataW.Whole enc Try.prog Try.f10.params.toList Rows.sumMixesSpec.vars false W args.toList ds gs before)
    (hsz0 : (DataW.weightsEach Try.prog (Try.f10.params.toList ++ Rows.sumMixesSpec.plain.varTypes Try.prog) (ds ++ gs)).all (· ≤ reachBytes) = true) :
    Calls Try.prog 10 args W fun e W' => ∃ v, e = .returned v ∧ Rows.sumMixesSpec.post enc Try.prog Try.f10 false true false false W args v W' := by
  have hval : ∀ (j : Nat) t v, Try.f10.params[j]? = some t → args[j]? = some v → Value.okWide Try.prog W .any base t v := hval0
  have hsz : (DataW.weightsEach Try.prog (Try.f10.params.toList ++ Rows.sumMixesSpec.plain.varTypes Try.prog) (ds ++ gs)).all (· ≤ reachBytes) = true := hsz0
  have hlt : ∀ x ∈ before, x.block < W.heap.size := fun x hx => hW.lt x hx
  have hW' := hW
  obtain ⟨p, q, hA0, hV, rfl, hfz, hnd⟩ := hW
  have hA : DataW.TrodAll enc Try.prog W 0 (fun _ => true) true Try.f10.params.toList args.toList ds p := hA0
  rw [Try.params10] at hA hval hsz
  obtain ⟨v0, vs0, d0, ds0, p0, q0, hargs, rfl, rfl, h0, r0⟩ := trodAll_cons hA
  obtain ⟨v1, vs1, d1, ds1, p1, q1, rfl, rfl, rfl, h1, r1⟩ := trodAll_cons r0
  obtain ⟨v2, vs2, d2, ds2, p2, q2, rfl, rfl, rfl, h2, r2⟩ := trodAll_cons r1
  obtain ⟨rfl, rfl, rfl⟩ := trodAll_nil r2
  obtain rfl : args = #[v0, v1, v2] := by cases args; simp_all
  obtain ⟨rfl, rfl⟩ := trodVars_none hV
  obtain ⟨a0, rfl, rfl, rfl, w0⟩ := open_string Try.underlying9 (hval 0 9 v0 rfl rfl) h0
  have b0 : a0.size ≤ 140737488351232 := by have := sized_string hsz (j := 0) (t := 9) rfl rfl; simpa [reachBytes] using this
  obtain ⟨a1, rfl, rfl, rfl, w1⟩ := open_string Try.underlying9 (hval 1 9 v1 rfl rfl) h1
  have b1 : a1.size ≤ 140737488351232 := by have := sized_string hsz (j := 1) (t := 9) rfl rfl; simpa [reachBytes] using this
  obtain ⟨a2, rfl, rfl, rfl, w2⟩ := open_string Try.underlying9 (hval 2 9 v2 rfl rfl) h2
  have b2 : a2.size ≤ 140737488351232 := by have := sized_string hsz (j := 2) (t := 9) rfl rfl; simpa [reachBytes] using this
  refine (walk a0 b0 a1 b1 a2 b2 W).mono fun e W' ⟨he, hb⟩ => ?_
  subst he
  exact ⟨_, rfl, law_post laid (by kernel_rfl) Try.underlying4 rfl rfl hW' rfl rfl rfl rfl hb⟩

set_option maxRecDepth 100000 in
theorem lifted (os : Os) (started : os.Started) (H : Type) (enc : TypeId × Value → H) :
    ReturnsInHanded {} Try.checked os 10 .any (Rows.sumMixesSpec.pre6 enc Try.prog Try.f10 Rows.sumMixesRow.domain false) (Rows.sumMixesSpec.post enc Try.prog Try.f10 false true false false) := by
  refine returnsInHanded_of_change_sized (C := Try.checked) own started (by kernel_rfl) Try.func10
    (ChangeSpec.witness6 (enc := enc) (C := Try.checked) false ⟨#[], #[.string ByteArray.empty, .string ByteArray.empty, .string ByteArray.empty], []⟩ 8 (by kernel_rfl) (by kernel_rfl) (by kernel_rfl) (by kernel_rfl)) ?_
  intro W base args ds gs before hval0 hW _ hsz0 _
  exact contract H enc W base args ds gs before hval0 hW hsz0

theorem over : Rows.sumMixesRow.holds Try.pinned (OpenSpec.ofChange Rows.sumMixesSpec) :=
  OpenClaim.holds_of_wide 10 Try.f10 rfl rfl rfl rfl rfl rfl rfl ⟨rfl, rfl, rfl, rfl, rfl⟩ rfl rfl rfl rfl rfl (by kernel_rfl) Try.func10 (by kernel_rfl)
    (of_decide_eq_true (by kernel_rfl)) (by unfold Func.isWrapper; first | (rw [if_pos (by decide +kernel)]; kernel_rfl) | (rw [if_neg (by decide +kernel)]; exact ⟨rfl, rfl⟩))
    (fun os started H enc _ => lifted os started H enc)

/-- The statement. -/
theorem proved : Rows.SumMixesSaid := over
#print axioms proved
end Go.Proofs.Ytibhffdimcmcoaa.sumMixes
