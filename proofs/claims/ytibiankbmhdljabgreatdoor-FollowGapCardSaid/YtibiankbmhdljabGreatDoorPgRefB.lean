/-
  Several texts in one: RfA, RfB, RfE.
-/
import Derived.Test.YtibiankbmhdljabGreatDoorPgRefA
import Derived.Test.YtibiankbmhdljabGreatDoorPgFrame
set_option linter.all false
set_option maxHeartbeats 16000000
set_option maxRecDepth 100000
namespace Go.Proofs.YtibiankbmhdljabGreatDoor
open Go.Proofs.Tryz
open Go.RowKit
theorem xqs (v : Int) (n : Nat) (h : v % 256 = ((n % 256 : Nat) : Int)) : (#[.int .u8 (v % 256)] : Array Value).toList = ux4 [UInt8.ofNat n] := by
 rw [h]; simp [ux4]
theorem uk4 (v : Int) (n : Nat) (h : v % 256 = ((n % 256 : Nat) : Int)) (w : World) :
  Calls prog 88 #[.int .u64 v] w fun e w' => e = .returned (.string (bstr [UInt8.ofNat n])) ∧ Below w.heap.size w w' := by
 have hcv := fun W => vw5 (P := prog) (src := 86) (dst := 9) underlying86 underlying5 underlying9 _ _ (xqs v n h) 1 1 rfl W 5
 clear h
 go_enter func88, ntmps88
 go_wp2_with fail
 go_ret
 exact ⟨rfl, (zri _ _).alloc (zra _) _⟩
theorem uxu (a b : List UInt8) (h : a.length + b.length <= 4611686018427387904) (W : World) : (Op.stringOp .add (bstr a) (bstr b)).run prog W = .ok (.string (bstr (a ++ b))) W := by
 rw [<- vjp]
 exact run_string_add_sum W _ _ (by rw [uqw, uqw]; omega)
theorem vqt : ∀ (n : Nat) (w : World), n < 18446744073709551616 -> Calls prog 89 #[.int .u64 (n : Int)] w fun e w' => e = .returned (.string (bstr (putN n))) ∧ Below w.heap.size w w' := by
 intro n
 induction n using Nat.strongRecOn with
 | _ n ih =>
 intro w hn
 by_cases h : n < 128
 ·have HE := zrj (ujp n h)
  have HC := zrj (uk4 (n : Int) n (by omega) w)
  clear ih
  go_enter func89, ntmps89
  go_wp2_with fail
  refine HC.out.mono ?_
  rintro e w1 ⟨rfl, hb1⟩
  go_wp2_with fail
  go_ret
  exact ⟨by rw [HE.out]; rfl, hb1⟩
 ·have hI := fun W => ih (n / 128) (by omega) W (by omega)
  rw [show ((n / 128 : Nat) : Int) = (n : Int) / 128 by omega] at hI
  have HI := zrj hI
  have HC := zrj (uk4 ((n : Int) % 128 + 128) (n % 128 + 128) (by omega) w)
  have h10 := uqj (n / 128) (by omega)
  have hadd := uxu [UInt8.ofNat (n % 128 + 128)] (putN (n / 128)) (by simp only [List.length_cons, List.length_nil]; omega)
  have HE := zrj (show putN n = [UInt8.ofNat (n % 128 + 128)] ++ putN (n / 128) from ukj n h)
  have hwr : IntKind.u64.wrap ((n : Int) % 128 + 128) = (n : Int) % 128 + 128 := by rw [IntKind.wrap_u64]; omega
  clear ih hI h10
  generalize UInt8.ofNat (n % 128 + 128) = c at *
  go_enter func89, ntmps89
  go_wp2_with fail
  refine HC.out.mono ?_
  rintro e w1 ⟨rfl, hb1⟩
  go_wp2_with fail
  refine (HI.out _).mono ?_
  rintro e w2 ⟨rfl, hb2⟩
  go_wp2_with fail
  go_ret
  exact ⟨by rw [HE.out]; rfl, bthen hb1 hb2⟩
theorem uy8 (n : Int) (w : World) (h0 : 0 <= n) (h1 : n < 9223372036854775808) : Calls prog 141 #[.int .i64 n] w fun e w' => e = .returned (.string (bstr (putN n.toNat))) ∧ Below w.heap.size w w' := by
 obtain ⟨m, rfl⟩ := Int.eq_ofNat_of_zero_le h0
 have HC := zrj (vqt m w (by omega))
 have hwr : IntKind.u64.wrap (m : Int) = (m : Int) := by rw [IntKind.wrap_u64]; omega
 go_enter func141, ntmps141
 go_wp2_with fail
 refine HC.out.mono ?_
 rintro e w1 ⟨rfl, hb1⟩
 go_wp2_with fail
 go_ret
 exact ⟨rfl, hb1⟩
theorem zigR_any (n : Int) (w : World) (h1 : -1000 <= n) (h2 : n <= 1000) :
  Calls prog 209 #[.int .i64 n] w fun e w' => e = .returned (.int .u64 (zigI n)) ∧ w = w' := by
 by_cases h : 0 <= n
 ·have HE := zrj (show zigI n = 2 * n by unfold zigI; rw [if_neg (by omega)])
  have hw1 : IntKind.u64.wrap n = n := by rw [IntKind.wrap_u64]; omega
  have hw2 : IntKind.u64.wrap (2 * n) = 2 * n := by rw [IntKind.wrap_u64]; omega
  go_enter func209, ntmps209
  go_wp2_with fail
  go_ret
  exact ⟨by rw [HE.out]; rfl, rfl⟩
 ·have HE := zrj (show zigI n = 2 * -(n + 1) + 1 by unfold zigI; rw [if_pos (by omega)]; omega)
  have hi1 : IntKind.i64.wrap (n + 1) = n + 1 := IntWalk.i64_in _ (by omega)
  have hi2 : IntKind.i64.wrap (-(n + 1)) = -(n + 1) := IntWalk.i64_in _ (by omega)
  have hw1 : IntKind.u64.wrap (-(n + 1)) = -(n + 1) := by rw [IntKind.wrap_u64]; omega
  have hw2 : IntKind.u64.wrap (2 * -(n + 1)) = 2 * -(n + 1) := by rw [IntKind.wrap_u64]; omega
  have hw3 : IntKind.u64.wrap (2 * -(n + 1) + 1) = 2 * -(n + 1) + 1 := by rw [IntKind.wrap_u64]; omega
  go_enter func209, ntmps209
  go_wp2_with fail
  go_ret
  exact ⟨by rw [HE.out]; rfl, rfl⟩
theorem uwn (s : ByteArray) (w : World) (h : ux0 s = true) :
  Calls prog 208 #[.string s] w fun e w' => e = .returned (.string (bstr (textB s.data.toList))) ∧ Below w.heap.size w w' := by
 unfold ux0 at h
 rw [Bool.and_eq_true, decide_eq_true_eq] at h
 obtain ⟨h16, hv⟩ := h
 have hu := fun W => xjx s W (by omega)
 rw [hv] at hu
 have HU := zrj hu
 have hl := ukr s
 have HC := zrj (fun W => uk4 (s.size : Int) s.size (by omega) W)
 have hwr : IntKind.u64.wrap (s.size : Int) = (s.size : Int) := by rw [IntKind.wrap_u64]; omega
 have hadd := uxu [UInt8.ofNat s.size] s.data.toList (by simp only [List.length_cons, List.length_nil]; omega)
 rw [uxp] at hadd
 have HE := zrj (show textB s.data.toList = [UInt8.ofNat s.size] ++ s.data.toList by unfold textB; rw [hl, ujp _ (by omega)])
 have HT : Hid (∀ W, Calls prog 229 #[.string s] W fun e w' => e = .returned (.tuple #[.string (bstr (textB s.data.toList)), .int .i64 0]) ∧ Below W.heap.size W w') := by
  show ∀ W, _
  intro W
  clear hv hu
  go_enter func229, ntmps229
  go_wp2_with fail
  refine (HU.out _).mono ?_
  rintro e w1 ⟨rfl, hb1⟩
  go_wp2_with fail
  refine (HC.out _).mono ?_
  rintro e w2 ⟨rfl, hb2⟩
  go_wp2_with fail
  go_ret2
  exact ⟨by rw [HE.out]; rfl, bthen hb1 hb2⟩
 clear hv hu hl hadd hwr
 go_enter func208, ntmps208
 go_wp2_with fail
 refine (HT.out _).mono ?_
 rintro e w1 ⟨rfl, hb1⟩
 go_wp2_with fail
 go_ret
 exact ⟨rfl, hb1⟩
theorem jobR_any (j : JobD) (w : World) (h0 : j.name.size <= 9223372036854775807) (h1 : j.tag.size <= 9223372036854775807) :
  Calls prog 173 #[.agg (rwJ j)] w fun e w' => e = .returned (.int .i64 (jobE j : Int)) ∧ Below w.heap.size w w' := by
 have hb0 : Below w.heap.size w (w.alloc (.cells (rwJ j) 62)) := (zri _ _).alloc (zra _) _
 have bx0 := Blk.new w 62 (rwJ j)
 have H0 := zrj (fun w => wxg j.name w h0)
 have H1 := zrj (fun w => vkj j.tag w h1)
 have hwi : ∀ n a b : Int, uq8 n a b = !(decide (n < a) || decide (n > b)) := fun n a b => by unfold uq8; rw [Bool.eq_iff_iff]; simp
 have hE : jobE j = (if uq9 j.name && ux0 j.tag then (if uq8 j.prio (-1000) 1000 && uq8 j.need 0 1000000 && uq8 j.tries 0 100 then 0 else 1) else 4) := rfl
 rw [hwi, hwi, hwi] at hE
 rw [hE]
 clear hE hwi h0 h1
 obtain ⟨o1, ho1, HO1⟩ : ∃ bo, (decide (j.prio < -1000) || decide (j.prio > 1000)) = bo ∧ Hid (∀ W : World, Calls prog 85 #[.int .i64 j.prio, .int .i64 (-1000), .int .i64 1000] W fun e w' => e = .returned (.bool bo) ∧ Below W.heap.size W w') := ⟨_, rfl, fun W => uky j.prio (-1000) 1000 W⟩
 obtain ⟨o2, ho2, HO2⟩ : ∃ bo, (decide (j.need < 0) || decide (j.need > 1000000)) = bo ∧ Hid (∀ W : World, Calls prog 85 #[.int .i64 j.need, .int .i64 0, .int .i64 1000000] W fun e w' => e = .returned (.bool bo) ∧ Below W.heap.size W w') := ⟨_, rfl, fun W => uky j.need 0 1000000 W⟩
 obtain ⟨o3, ho3, HO3⟩ : ∃ bo, (decide (j.tries < 0) || decide (j.tries > 100)) = bo ∧ Hid (∀ W : World, Calls prog 85 #[.int .i64 j.tries, .int .i64 0, .int .i64 100] W fun e w' => e = .returned (.bool bo) ∧ Below W.heap.size W w') := ⟨_, rfl, fun W => uky j.tries 0 100 W⟩
 rw [ho1, ho2, ho3]
 clear ho1 ho2 ho3
 generalize uq9 j.name = q0 at *
 generalize ux0 j.tag = q1 at *
 cases q0
 ·go_enter func173, ntmps173
  go_wp2_with fail
  generalize w.alloc _ = W at *
  have e0 : W.cell? ⟨w.heap.size, 0, none⟩ = some (.string j.name) := bx0.cell 0
  go_wp2_with (refine (H0.out _).mono ?_; rintro e w2 ⟨rfl, hb2⟩)
  go_ret
  exact ⟨rfl, hb0.trans (hb2.mono hb0.size)⟩
 cases q1
 ·go_enter func173, ntmps173
  go_wp2_with fail
  generalize w.alloc _ = W at *
  have e0 : W.cell? ⟨w.heap.size, 0, none⟩ = some (.string j.name) := bx0.cell 0
  go_wp2_with fail
  refine (H0.out _).mono ?_
  rintro e w2 ⟨rfl, hb2⟩
  have bx2 := bx0.below hb2 bx0.lt
  have e2 : w2.cell? ⟨w.heap.size, 4, none⟩ = some (.string j.tag) := bx2.cell 4
  go_wp2_with fail
  refine (H1.out _).mono ?_
  rintro e w3 ⟨rfl, hb3⟩
  go_wp2_with fail
  go_ret
  have h2 := hb0.trans (hb2.mono hb0.size)
  exact ⟨rfl, h2.trans (hb3.mono h2.size)⟩
 ·go_enter func173, ntmps173
  go_wp2_with fail
  generalize w.alloc _ = W at *
  have e0 : W.cell? ⟨w.heap.size, 0, none⟩ = some (.string j.name) := bx0.cell 0
  go_wp2_with fail
  refine (H0.out _).mono ?_
  rintro e w2 ⟨rfl, hb2⟩
  have bx2 := bx0.below hb2 bx0.lt
  have e2 : w2.cell? ⟨w.heap.size, 4, none⟩ = some (.string j.tag) := bx2.cell 4
  go_wp2_with fail
  refine (H1.out _).mono ?_
  rintro e w3 ⟨rfl, hb3⟩
  have bx3 := bx2.below hb3 bx2.lt
  have e3 : w3.cell? ⟨w.heap.size, 1, none⟩ = some (.int .i64 j.prio) := bx3.cell 1
  have h2 := hb0.trans (hb2.mono hb0.size)
  have h3 := h2.trans (hb3.mono h2.size)
  clear e0 e2 hb0 hb2 hb3 h2 bx0 bx2
  go_wp2_with fail
  refine (HO1.out _).mono ?_
  rintro e w4 ⟨rfl, hb4⟩
  have bx4 := bx3.below hb4 bx3.lt
  have e4 : w4.cell? ⟨w.heap.size, 2, none⟩ = some (.int .i64 j.need) := bx4.cell 2
  have h4 := h3.trans (hb4.mono h3.size)
  clear e3 hb4 h3
  cases o1
  ·go_wp2_with fail
   refine (HO2.out _).mono ?_
   rintro e w5 ⟨rfl, hb5⟩
   have bx5 := bx4.below hb5 bx4.lt
   have e5 : w5.cell? ⟨w.heap.size, 3, none⟩ = some (.int .i64 j.tries) := bx5.cell 3
   have h5 := h4.trans (hb5.mono h4.size)
   clear e4 hb5 h4
   cases o2
   ·go_wp2_with fail
    refine (HO3.out _).mono ?_
    rintro e w6 ⟨rfl, hb6⟩
    have h6 := h5.trans (hb6.mono h5.size)
    clear e5 hb6 h5
    cases o3
    ·go_wp2_with fail
     go_ret
     exact ⟨rfl, h6⟩
    ·go_wp2_with fail
     go_ret
     exact ⟨rfl, h6⟩
   ·go_wp2_with fail
    go_ret
    exact ⟨rfl, h5⟩
  ·go_wp2_with fail
   go_ret
   exact ⟨rfl, h4⟩
theorem st1_odd (x : Nat) (hx : x < 4294967296) (h : x % 2 = 1) : bits .xor .u32 ((x : Int) / 2) 3988292384 = ((st1 x : Nat) : Int) := by
 have h2 : (x : Int) / 2 = ((x / 2 : Nat) : Int) := by omega
 have := u32_xor_nat (x / 2) 3988292384 (by omega) (by omega)
 rw [h2, show (3988292384 : Int) = ((3988292384 : Nat) : Int) from rfl, this]
 unfold st1
 rw [h, Nat.one_mul]
theorem st1_even (x : Nat) (h : x % 2 = 0) : (x : Int) / 2 = ((st1 x : Nat) : Int) := by
 unfold st1
 rw [h, Nat.zero_mul, Nat.xor_zero]
 omega
theorem sumR_any (l : List UInt8) (w : World) (hl : l.length <= 4611686018427387904) :
  Calls prog 142 #[.string (bstr l)] w fun e w' => e = .returned (.int .u32 (crc l : Int)) ∧ w = w' := by
 have hs := uqw l
 have hli := uqt l
 generalize bstr l = s at *
 subst hli
 have hs2 : s.size <= 4611686018427387904 := by omega
 clear hs hl
 go_enter func142, ntmps142
 go_wp2
 go_loop [3, 8] (fun x i => ∃ k r : Nat, k <= s.size ∧ r < 4294967296 ∧ Hid (reg 4294967295 s.data.toList = reg r (s.data.toList.drop k)) ∧ x = .int .u32 r ∧ i = .int .i64 k) (fun _ i => s.size - (intOf i).toNat)
 case atStart => exact ⟨0, 4294967295, by omega, by omega, rfl, rfl, rfl⟩
 case round =>
  obtain ⟨k, r, hk, hr, H, rfl, rfl⟩ := hrel
  by_cases hlt : k < s.size
  ·have H1 := H.out
   rw [vq4 s k hlt, vyw] at H1
   have hc := (s[k]).toNat_lt
   have hcw : IntKind.u32.wrap ((s[k]).toNat : Int) = ((s[k]).toNat : Int) := by rw [IntKind.wrap_u32]; omega
   have hx : bits .xor .u32 (r : Int) ((s[k]).toNat : Int) = ((r ^^^ (s[k]).toNat : Nat) : Int) := u32_xor_nat _ _ hr (ujh _)
   have hq := ukq hr (ujh s[k])
   have hup : upd r s[k] = stk 8 (r ^^^ (s[k]).toNat) := rfl
   rw [hup] at H1
   have HH := zrj H1
   clear H H1 hup
   generalize r ^^^ (s[k]).toNat = q at *
   go_wp2
   go_loop [3, 17] (fun x j => ∃ (i : Nat), i <= 8 ∧ j = .int .i64 i ∧ x = .int .u32 (stk i q)) (fun _ j => 8 - (intOf j).toNat)
   case atStart => exact ⟨0, by omega, rfl, rfl⟩
   case round =>
    obtain ⟨i, hi, rfl, rfl⟩ := hrel
    have hx := xjh i q hq
    by_cases h8 : i < 8
    ·have HS := zrj (wvt i q)
     rcases Nat.mod_two_eq_zero_or_one (stk i q) with hm | hm
     ·have hb : (((stk i q : Nat) : Int) % 2 == 1) = false := by rw [zrf]; omega
      have HV := zrj (st1_even _ hm)
      clear hm
      generalize hy : stk i q = y at *
      go_wp2
      go_round
      case rel => exact ⟨i + 1, by omega, by go_num, congrArg (Value.int .u32) (by rw [HS.out]; exact HV.out)⟩
      case measure => simp [intOf]; omega
     ·have hb : (((stk i q : Nat) : Int) % 2 == 1) = true := by rw [beq_iff_eq]; omega
      have HV := zrj (st1_odd _ hx hm)
      clear hm
      generalize hy : stk i q = y at *
      go_wp2
      go_round
      case rel => exact ⟨i + 1, by omega, by go_num, congrArg (Value.int .u32) (by rw [HS.out]; exact HV.out)⟩
      case measure => simp [intOf]; omega
    ·obtain rfl : i = 8 := by omega
     go_wp2
     go_round
     case rel => exact ⟨k + 1, stk 8 q, by omega, hx, HH, rfl, by go_num⟩
     case measure => simp [intOf]; omega
  ·obtain rfl : k = s.size := by omega
   have H1 := H.out
   rw [List.drop_of_length_le (by simp)] at H1
   have HH : Hid (crc s.data.toList = 4294967295 - r) := by show _ = _; unfold crc; rw [H1]; rfl
   have hw : IntKind.u32.wrap (4294967295 - (r : Int)) = ((4294967295 - r : Nat) : Int) := by rw [IntKind.wrap_u32]; omega
   have HW := zrj hw
   clear H H1
   go_wp2
   go_ret
   exact ⟨congrArg (fun x => Ending.returned (.int .u32 x)) (by rw [HH.out]; try exact HW.out), rfl⟩
theorem wx0 (l : List UInt8) (w : World) (hl : l.length <= 4611686018427387904) :
  Calls prog 90 #[.string (bstr l)] w fun e w' => e = .returned (.string (bstr (sum4 (crc l)))) ∧ Below w.heap.size w w' := by
 have hc := crc_lt l
 have HS := zrj (sumR_any l w hl)
 generalize crc l = x at *
 have hw : IntKind.u64.wrap (x : Int) = (x : Int) := by rw [IntKind.wrap_u64]; omega
 have H1 := zrj (fun W => uk4 ((x : Int) / 16777216) (x / 16777216) (by omega) W)
 have H2 := zrj (fun W => uk4 ((x : Int) / 65536) (x / 65536) (by omega) W)
 have H3 := zrj (fun W => uk4 ((x : Int) / 256) (x / 256) (by omega) W)
 have H4 := zrj (fun W => uk4 (x : Int) x (by omega) W)
 have a1 : ∀ W, (Op.stringOp .add (bstr [UInt8.ofNat (x / 16777216)]) (bstr [UInt8.ofNat (x / 65536)])).run prog W = .ok (.string (bstr [UInt8.ofNat (x / 16777216), UInt8.ofNat (x / 65536)])) W := fun W => uxu [_] [_] (by simp) W
 have a2 : ∀ W, (Op.stringOp .add (bstr [UInt8.ofNat (x / 16777216), UInt8.ofNat (x / 65536)]) (bstr [UInt8.ofNat (x / 256)])).run prog W = .ok (.string (bstr [UInt8.ofNat (x / 16777216), UInt8.ofNat (x / 65536), UInt8.ofNat (x / 256)])) W := fun W => uxu [_, _] [_] (by simp) W
 have a3 : ∀ W, (Op.stringOp .add (bstr [UInt8.ofNat (x / 16777216), UInt8.ofNat (x / 65536), UInt8.ofNat (x / 256)]) (bstr [UInt8.ofNat x])).run prog W = .ok (.string (bstr (sum4 x))) W := fun W => uxu [_, _, _] [_] (by simp) W
 go_enter func90, ntmps90
 go_wp2_with fail
 refine HS.out.mono ?_
 rintro e w0 ⟨rfl, rfl⟩
 go_wp2_with fail
 refine (H1.out _).mono ?_
 rintro e w1 ⟨rfl, hb1⟩
 go_wp2_with fail
 refine (H2.out _).mono ?_
 rintro e w2 ⟨rfl, hb2⟩
 go_wp2_with fail
 refine (H3.out _).mono ?_
 rintro e w3 ⟨rfl, hb3⟩
 go_wp2_with fail
 refine (H4.out _).mono ?_
 rintro e w4 ⟨rfl, hb4⟩
 go_wp2_with fail
 go_ret
 exact ⟨rfl, bthen (bthen (bthen hb1 hb2) hb3) hb4⟩
theorem wz1 (v k : Nat) (pl : List UInt8) (hv : 1 <= v ∧ v <= 3) (hk : 1 <= k ∧ k <= 4) (hp : pl.length <= 6000) (w : World) :
  Calls prog 50 #[.agg #[.int .i64 (v : Int), .int .i64 (k : Int), .string (bstr pl)]] w fun e w' => e = .returned (.tuple #[.string (bstr (wireF v k pl)), .int .i64 0]) ∧ Below w.heap.size w w' := by
 have hb0 : Below w.heap.size w (w.alloc (.cells #[.int .i64 (v : Int), .int .i64 (k : Int), .string (bstr pl)] 44)) := (zri _ _).alloc (zra _) _
 have b0 := Blk.new w 44 #[.int .i64 (v : Int), .int .i64 (k : Int), .string (bstr pl)]
 have hz := uqw pl
 have d1 : (decide ((v : Int) < 1) || decide ((v : Int) > 3)) = false := by simp; omega
 have d2 : (decide ((k : Int) < 1) || decide ((k : Int) > 4)) = false := by simp; omega
 have ho1 := fun W => uky (v : Int) 1 3 W
 have ho2 := fun W => uky (k : Int) 1 4 W
 rw [d1] at ho1
 rw [d2] at ho2
 have HO1 := zrj ho1
 have HO2 := zrj ho2
 have hwv : IntKind.u64.wrap (v : Int) = (v : Int) := by rw [IntKind.wrap_u64]; omega
 have hwk : IntKind.u64.wrap (k : Int) = (k : Int) := by rw [IntKind.wrap_u64]; omega
 have hwp : IntKind.u64.wrap (pl.length : Int) = (pl.length : Int) := by rw [IntKind.wrap_u64]; omega
 have H1 := zrj (fun W => uk4 (v : Int) v (by omega) W)
 have H2 := zrj (fun W => uk4 (k : Int) k (by omega) W)
 have H3 := zrj (fun W => vqt pl.length W (by omega))
 have h10 := uqj pl.length (by omega)
 have hbl : (bodyF v k pl).length = 4 + (putN pl.length).length + pl.length := by unfold bodyF; rw [zrb, zrb]; rfl
 have H4 := zrj (fun W => wx0 (bodyF v k pl) W (by omega))
 have a1 : ∀ W, (Op.stringOp .add (⟨#[66, 75]⟩ : ByteArray) (bstr [UInt8.ofNat v])).run prog W = .ok (.string (bstr [66, 75, UInt8.ofNat v])) W := fun W => uxu [66, 75] [_] (by simp) W
 have a2 : ∀ W, (Op.stringOp .add (bstr [66, 75, UInt8.ofNat v]) (bstr [UInt8.ofNat k])).run prog W = .ok (.string (bstr [66, 75, UInt8.ofNat v, UInt8.ofNat k])) W := fun W => uxu [66, 75, _] [_] (by simp) W
 obtain ⟨B, hB⟩ : ∃ B, [66, 75, UInt8.ofNat v, UInt8.ofNat k] ++ putN pl.length = B := ⟨_, rfl⟩
 have hBl : B.length = 4 + (putN pl.length).length := by rw [<- hB, zrb]; rfl
 have a3 : ∀ W, (Op.stringOp .add (bstr [66, 75, UInt8.ofNat v, UInt8.ofNat k]) (bstr (putN pl.length))).run prog W = .ok (.string (bstr B)) W := fun W => by rw [<- hB]; exact uxu [66, 75, _, _] _ (by simp; omega) W
 have a4 : ∀ W, (Op.stringOp .add (bstr B) (bstr pl)).run prog W = .ok (.string (bstr (bodyF v k pl))) W := fun W => by rw [show bodyF v k pl = B ++ pl from by rw [<- hB]; rfl]; exact uxu B pl (by omega) W
 have a5 : ∀ W, (Op.stringOp .add (bstr (bodyF v k pl)) (bstr (sum4 (crc (bodyF v k pl))))).run prog W = .ok (.string (bstr (wireF v k pl))) W := fun W => uxu _ _ (by rw [wka]; omega) W
 have hpl : ¬ ((6000 : Int) < (pl.length : Int)) := by omega
 clear ho1 ho2 d1 d2 h10 hbl hv hk hB hBl
 go_enter func50, ntmps50
 go_wp2_with fail
 generalize w.alloc _ = W at *
 have e0 : W.cell? ⟨w.heap.size, 0, none⟩ = some (.int .i64 (v : Int)) := b0.cell 0
 go_wp2_with fail
 refine (HO1.out _).mono ?_
 rintro e w1 ⟨rfl, hb1⟩
 have b1 := b0.below hb1 b0.lt
 have hB1 := bthen hb0 hb1
 have e1 : w1.cell? ⟨w.heap.size, 1, none⟩ = some (.int .i64 (k : Int)) := b1.cell 1
 clear e0 b0 hb0 hb1
 go_wp2_with fail
 refine (HO2.out _).mono ?_
 rintro e w2 ⟨rfl, hb2⟩
 have b2 := b1.below hb2 b1.lt
 have hB2 := bthen hB1 hb2
 have e2 : w2.cell? ⟨w.heap.size, 2, none⟩ = some (.string (bstr pl)) := b2.cell 2
 clear e1 b1 hB1 hb2 HO1 HO2
 go_wp2_with fail
 refine wp_region_held_drew (S := fun w' => w'.cell? ⟨w.heap.size, 0, none⟩ = some (.int .i64 (v : Int)) ∧ w'.cell? ⟨w.heap.size, 1, none⟩ = some (.int .i64 (k : Int)) ∧ w'.cell? ⟨w.heap.size, 2, none⟩ = some (.string (bstr pl))) (by kernel_rfl) ⟨b2.cell 0, b2.cell 1, b2.cell 2⟩ (fun hHeld => ?_)
 have b3 : Blk w2.drew w.heap.size 44 #[.int .i64 (v : Int), .int .i64 (k : Int), .string (bstr pl)] := b2.drew
 refine tq 0 ?_
 refine tq 1 ?_
 refine tq 2 ?_
 refine tq 5 ?_
 refine tq 6 ?_
 refine tq 7 ?_
 refine tq 10 ?_
 refine tq 11 ?_
 refine tq 12 ?_
 refine tq 13 ?_
 refine tq 16 ?_
 refine tq 17 ?_
 refine tr 3 rfl (fun K hK => ?_)
 go_simp
 refine (H1.out _).mono ?_
 rintro e w4 ⟨rfl, hb4⟩
 have b4 := b3.below hb4 b3.lt
 refine hK.out _ _ (⟨b4.cell 0, b4.cell 1, b4.cell 2⟩) (fun hHeld => ?_)
 clear hK K
 (try simp only [Act.put, ma, mb, mc, md, me, mf])
 refine tq 4 ?_
 refine tr 8 rfl (fun K hK => ?_)
 go_simp
 refine (H2.out _).mono ?_
 rintro e w5 ⟨rfl, hb5⟩
 have b5 := b4.below hb5 b4.lt
 refine hK.out _ _ (⟨b5.cell 0, b5.cell 1, b5.cell 2⟩) (fun hHeld => ?_)
 clear hK K
 (try simp only [Act.put, ma, mb, mc, md, me, mf])
 refine tq 9 ?_
 refine tr 14 rfl (fun K hK => ?_)
 go_simp
 refine (H3.out _).mono ?_
 rintro e w6 ⟨rfl, hb6⟩
 have b6 := b5.below hb6 b5.lt
 refine hK.out _ _ (⟨b6.cell 0, b6.cell 1, b6.cell 2⟩) (fun hHeld => ?_)
 clear hK K
 (try simp only [Act.put, ma, mb, mc, md, me, mf])
 refine tq 15 ?_
 refine tq 18 ?_
 refine tq 19 ?_
 refine wpAnyH_done (by kernel_rfl) ?_ _
 clear hHeld
 have hB6 := bthen (bthen (bthen hB2.drew hb4) hb5) hb6
 clear hB2 hb4 hb5 hb6 e2
 go_wp2_with fail
 refine (H4.out _).mono ?_
 rintro e w7 ⟨rfl, hb7⟩
 go_wp2_with fail
 go_ret2
 exact ⟨rfl, bthen hB6 hb7⟩
end Go.Proofs.YtibiankbmhdljabGreatDoor
