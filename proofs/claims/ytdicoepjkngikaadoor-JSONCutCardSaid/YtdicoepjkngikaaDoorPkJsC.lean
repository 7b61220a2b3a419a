/-
  Several texts in one: JsonG, JsonH, JsonT, JsonU, JsonV, JsonVJ, JsonVN, JsonVL.
-/
import Derived.Test.YtdicoepjkngikaaDoorPkJsA
import Derived.Lib.ConvBytes
import Derived.Test.YtdicoepjkngikaaDoorPkBase
import Derived.Deep.RegionLaw
import Derived.Test.YtdicoepjkngikaaDoorPkJsB
import Derived.Lib.AppendStr
/-
 strconv.ParseUint at base 16, two signs.
-/
set_option linter.unusedVariables false
set_option linter.unusedSimpArgs false
namespace Go.Proofs.YtdicoepjkngikaaDoor
open Go.RowKit
def lowN (c : Nat) : Nat := c ||| 32
theorem lower_bits : ∀ c : Nat, c < 256 → bits BinOp.or IntKind.u8 (c : Int) 32 = ((lowN c : Nat) : Int) := by decide +kernel
theorem lowN_lt : ∀ c : Nat, c < 256 → lowN c < 256 := by decide +kernel
/-- What a sign is, as the code tests it. -/
theorem hex_cases : ∀ c : Nat, c < 256 →
    (48 ≤ c ∧ c ≤ 57 ∧ hexV (UInt8.ofNat c) = some (c - 48)) ∨ (¬ (48 ≤ c ∧ c ≤ 57) ∧ 97 ≤ lowN c ∧ lowN c ≤ 102 ∧ hexV (UInt8.ofNat c) = some (lowN c - 87)) ∨
    (¬ (48 ≤ c ∧ c ≤ 57) ∧ 103 ≤ lowN c ∧ lowN c ≤ 122 ∧ hexV (UInt8.ofNat c) = none) ∨ (¬ (48 ≤ c ∧ c ≤ 57) ∧ (¬ 97 ≤ lowN c ∨ 97 ≤ lowN c ∧ ¬ lowN c ≤ 122) ∧ hexV (UInt8.ofNat c) = none) := by decide +kernel
theorem lower_any (c : Nat) (hc : c < 256) (w : World) : Calls Tryd.prog 75 #[.int .u8 (c : Int)] w fun e w' => e = .returned (.int .u8 ((lowN c : Nat) : Int)) ∧ w' = w := by
  have h := lower_bits c hc
  go_enter Tryd.func75, Tryd.ntmps75
  go_wp2_with fail
  go_ret
  exact ⟨by rw [← h]; rfl, rfl⟩
theorem hex_none {a b c : UInt8} {k : Nat} (h : (k = 0 → c = a) ∧ (k = 1 → c = b)) (hk : k < 2) (hc : hexV c = none) : hex2 a b = none := by
  unfold hex2
  rcases (show k = 0 ∨ k = 1 by omega) with h0 | h0
  · rw [h.1 h0] at hc; rw [hc]
  · rw [h.2 h0] at hc; rw [hc]; cases hexV a <;> rfl
theorem hexV_lt {c : UInt8} {d : Nat} (h : hexV c = some d) : d ≤ 15 := by
  unfold hexV at h
  split at h
  · injection h; omega
  · split at h
    · injection h; omega
    · split at h
      · injection h; omega
      · cases h
theorem hex_step {a b c : UInt8} {k N d : Nat} (H : (k = 0 → N = 0) ∧ (k = 1 → hexV a = some N) ∧ (k = 2 → hex2 a b = some N)) (h : (k = 0 → c = a) ∧ (k = 1 → c = b)) (hk : k < 2) (hc : hexV c = some d) :
    Hid ((k + 1 = 0 → N * 16 + d = 0) ∧ (k + 1 = 1 → hexV a = some (N * 16 + d)) ∧ (k + 1 = 2 → hex2 a b = some (N * 16 + d))) ∧ (k + 1 < 2 → N * 16 + d ≤ 15) := by
  refine ⟨(show _ ∧ _ ∧ _ from ⟨fun h0 => by omega, fun h0 => ?_, fun h0 => ?_⟩), fun h0 => ?_⟩
  · have hk0 : k = 0 := by omega
    rw [H.1 hk0, Nat.zero_mul, Nat.zero_add, ← h.1 hk0]; exact hc
  · have hk0 : k = 1 := by omega
    rw [h.2 hk0] at hc
    unfold hex2
    rw [H.2.1 hk0, hc, Nat.mul_comm]
  · have hk0 : k = 0 := by omega
    rw [H.1 hk0]; have := hexV_lt hc; omega
set_option maxHeartbeats 8000000 in
set_option maxRecDepth 100000 in
theorem parseHexIn_any (a b : UInt8) (w : World) :
    Calls Tryd.prog 66 #[.string ⟨#[a, b]⟩, .int .i64 16, .int .i64 8] w fun e w' => (∃ n, hex2 a b = some n ∧ e = .returned (.tuple #[.int .u64 (n : Int), .nilIface]) ∨ hex2 a b = none ∧ e = .returned (.tuple #[.int .u64 0, .iface 108 (.int .i64 2)])) ∧ Below w.heap.size w w' := by
  have hcv := fun W : World => Lib.run_convert_string_bytes (P := Tryd.prog) W 9 62 5 ⟨#[a, b]⟩ Tryd.underlying9 Tryd.underlying62 Tryd.underlying5
  have hB0 := Lib.bytesWorld_below w 5 ⟨#[a, b]⟩
  have x0 : (Lib.bytesWorld w 5 ⟨#[a, b]⟩).cell? ⟨w.heap.size, 0, none⟩ = some (.int .u8 (a.toNat : Int)) := Lib.bytesWorld_cell w 5 ⟨#[a, b]⟩ 0 (show 0 < 2 by decide)
  have x1 : (Lib.bytesWorld w 5 ⟨#[a, b]⟩).cell? ⟨w.heap.size, 1, none⟩ = some (.int .u8 (b.toNat : Int)) := Lib.bytesWorld_cell w 5 ⟨#[a, b]⟩ 1 (show 1 < 2 by decide)
  have hne : (⟨#[a, b]⟩ : ByteArray).toList.isEmpty = false := by rw [ByteArray.toList_eq]; rfl
  have hsz : (⟨#[a, b]⟩ : ByteArray).size = 2 := rfl
  generalize hS : (⟨#[a, b]⟩ : ByteArray) = S at *
  clear hS
  go_enter Tryd.func66, Tryd.ntmps66
  go_wp2_with fail
  generalize Lib.bytesWorld w 5 S = W at *
  go_loopg [12, 13, 101] 3 (fun gk u n i wx => ∃ k N : Nat, u = .bool false ∧ n = .int .u64 (N : Int) ∧ i = .int .i64 (k : Int) ∧ k ≤ 2 ∧ Hid ((k = 0 → N = 0) ∧ (k = 1 → hexV a = some N) ∧ (k = 2 → hex2 a b = some N)) ∧ (k < 2 → N ≤ 15) ∧ wx = W ∧ 2 < gk + k)
  case atStart => exact ⟨0, 0, rfl, rfl, rfl, by omega, (show _ ∧ _ ∧ _ from ⟨fun _ => rfl, fun h => by omega, fun h => by omega⟩), by omega, rfl, by omega⟩
  case round =>
    obtain ⟨k, N, rfl, rfl, rfl, hk, H, hN, rfl, hgk⟩ := hrel
    by_cases hk2 : k < 2
    · have hN15 := hN hk2
      obtain ⟨c, hc, hca, hcb⟩ : ∃ c : UInt8, wr.cell? ⟨w.heap.size, k, none⟩ = some (.int .u8 (c.toNat : Int)) ∧ (k = 0 → c = a) ∧ (k = 1 → c = b) := by
        rcases (show k = 0 ∨ k = 1 by omega) with rfl | rfl
        · exact ⟨a, x0, fun _ => rfl, fun h => by omega⟩
        · exact ⟨b, x1, fun h => by omega, fun _ => rfl⟩
      have h256 := c.toNat_lt
      have HC := Lib.hid (⟨hca, hcb⟩ : (k = 0 → c = a) ∧ (k = 1 → c = b))
      have hx := hex_cases c.toNat h256
      have hof : UInt8.ofNat c.toNat = c := UInt8.ofNat_toNat
      rw [hof] at hx
      clear hca hcb hof x0 x1 hne hcv
      rcases hx with ⟨a1, a2, a3⟩ | ⟨a1, a2, a3, a4⟩ | ⟨a1, a2, a3, a4⟩ | ⟨a1, a2, a3⟩
      · have i1 : (48 : Int) ≤ (c.toNat : Int) := by omega
        have i2 : (c.toNat : Int) ≤ 57 := by omega
        have i3 : ((c.toNat : Int) == 95) = false := beq_eq_false_iff_ne.2 (by omega)
        have HR := Lib.hid (hex_step H.out HC.out hk2 a3)
        clear a1 a2 a3 h256
        have j1 : ¬ (1152921504606846976 : Int) ≤ (N : Int) := by omega
        have j2 : decide ((N : Int) ≥ (1152921504606846976 : Int)) = false := by simp; omega
        go_wp2_with fail
        go_roundg (gk - 1)
        case rel => exact ⟨k + 1, N * 16 + (c.toNat - 48), rfl, congrArg (Value.int .u64) (by omega), by go_num, by omega, HR.out.1, HR.out.2, rfl, by omega⟩
        case measure => omega
      · have i1 : ¬ ((48 : Int) ≤ (c.toNat : Int) ∧ (c.toNat : Int) ≤ 57) := by omega
        have HL := Lib.hid (fun W => lower_any c.toNat h256 W)
        have HR := Lib.hid (hex_step H.out HC.out hk2 a4)
        have i2 : (97 : Int) ≤ (lowN c.toNat : Int) := by omega
        have i3 : (lowN c.toNat : Int) ≤ 122 := by omega
        have i4 : (lowN c.toNat : Int) ≤ 102 := by omega
        have i9 : ((c.toNat : Int) == 95) = false := beq_eq_false_iff_ne.2 (fun h => by have h5 : c.toNat = 95 := (by omega); rw [h5] at a3; exact absurd a3 (by decide))
        generalize lowN c.toNat = l at *
        rcases (show ¬ (48 : Int) ≤ (c.toNat : Int) ∨ (48 : Int) ≤ (c.toNat : Int) ∧ ¬ (c.toNat : Int) ≤ 57 by omega) with i5 | ⟨i5, i6⟩
        all_goals
          clear a1 a2 a3 a4 i1 h256
          go_wp2_with fail
          refine (HL.out _).mono ?_
          rintro e w' ⟨rfl, rfl⟩
          go_wp2_with fail
          refine (HL.out _).mono ?_
          rintro e w' ⟨rfl, rfl⟩
          go_wp2_with fail
          refine (HL.out _).mono ?_
          rintro e w' ⟨rfl, rfl⟩
          have i7 : (l : Int) - 97 + 10 < 16 := by omega
          go_upto_region 48 with fail
          have j1 : ¬ (1152921504606846976 : Int) ≤ (N : Int) := by omega
          have j2 : decide ((N : Int) ≥ (1152921504606846976 : Int)) = false := by simp; omega
          go_wp2_with fail
          go_roundg (gk - 1)
          case rel => exact ⟨k + 1, N * 16 + (l - 87), rfl, congrArg (Value.int .u64) (by omega), by go_num, by omega, HR.out.1, HR.out.2, rfl, by omega⟩
          case measure => omega
      · have HL := Lib.hid (fun W => lower_any c.toNat h256 W)
        have HR := Lib.hid (hex_none HC.out hk2 a4)
        have i2 : (97 : Int) ≤ (lowN c.toNat : Int) := by omega
        have i3 : (lowN c.toNat : Int) ≤ 122 := by omega
        have i4 : (103 : Int) ≤ (lowN c.toNat : Int) := by omega
        have i9 : ((c.toNat : Int) == 95) = false := beq_eq_false_iff_ne.2 (fun h => by have h5 : c.toNat = 95 := (by omega); rw [h5] at a3; exact absurd a3 (by decide))
        have HB := Lib.hid hB0
        rcases (show ¬ (48 : Int) ≤ (c.toNat : Int) ∨ (48 : Int) ≤ (c.toNat : Int) ∧ ¬ (c.toNat : Int) ≤ 57 by omega) with i5 | ⟨i5, i6⟩
        all_goals
          generalize lowN c.toNat = l at *
          clear a1 a2 a3 a4 h256
          go_wp2_with fail
          refine (HL.out _).mono ?_
          rintro e w' ⟨rfl, rfl⟩
          go_wp2_with fail
          refine (HL.out _).mono ?_
          rintro e w' ⟨rfl, rfl⟩
          go_wp2_with fail
          refine (HL.out _).mono ?_
          rintro e w' ⟨rfl, rfl⟩
          go_wp2_with fail
          go_ret2
          exact ⟨⟨0, .inr ⟨HR.out, rfl⟩⟩, HB.out⟩
      · have HL := Lib.hid (fun W => lower_any c.toNat h256 W)
        have HR := Lib.hid (hex_none HC.out hk2 a3)
        have HB := Lib.hid hB0
        have a2' : ¬ (97 : Int) ≤ (lowN c.toNat : Int) ∨ (97 : Int) ≤ (lowN c.toNat : Int) ∧ ¬ (lowN c.toNat : Int) ≤ 122 := by omega
        by_cases h95 : c.toNat = 95
        · have i9 : ((c.toNat : Int) == 95) = true := by rw [h95]; rfl
          have h127 : lowN c.toNat = 127 := by rw [h95]; decide
          have i2 : (97 : Int) ≤ (lowN c.toNat : Int) := by omega
          have i3 : ¬ (lowN c.toNat : Int) ≤ 122 := by omega
          have i5 : (48 : Int) ≤ (c.toNat : Int) := by omega
          have i6 : ¬ (c.toNat : Int) ≤ 57 := by omega
          clear a1 a2 a3 a2' h127 h95 h256
          generalize lowN c.toNat = l at *
          go_wp2_with fail
          refine (HL.out _).mono ?_
          rintro e w' ⟨rfl, rfl⟩
          go_wp2_with fail
          refine (HL.out _).mono ?_
          rintro e w' ⟨rfl, rfl⟩
          go_wp2_with fail
          go_ret2
          exact ⟨⟨0, .inr ⟨HR.out, rfl⟩⟩, HB.out⟩
        have i9 : ((c.toNat : Int) == 95) = false := beq_eq_false_iff_ne.2 (by omega)
        clear h95
        generalize lowN c.toNat = l at *
        rcases (show ¬ (48 : Int) ≤ (c.toNat : Int) ∨ (48 : Int) ≤ (c.toNat : Int) ∧ ¬ (c.toNat : Int) ≤ 57 by omega) with i5 | ⟨i5, i6⟩
        all_goals
          clear a1 a2 a3 h256
          rcases a2' with i2 | ⟨i2, i3⟩
          · go_wp2_with fail
            refine (HL.out _).mono ?_
            rintro e w' ⟨rfl, rfl⟩
            go_wp2_with fail
            go_ret2
            exact ⟨⟨0, .inr ⟨HR.out, rfl⟩⟩, HB.out⟩
          · go_wp2_with fail
            refine (HL.out _).mono ?_
            rintro e w' ⟨rfl, rfl⟩
            go_wp2_with fail
            refine (HL.out _).mono ?_
            rintro e w' ⟨rfl, rfl⟩
            go_wp2_with fail
            go_ret2
            exact ⟨⟨0, .inr ⟨HR.out, rfl⟩⟩, HB.out⟩
    · obtain rfl : k = 2 := by omega
      have HR := Lib.hid (H.out.2.2 rfl)
      clear x0 x1 hne hcv
      go_wp2_with fail
      go_ret2
      exact ⟨⟨N, .inl ⟨HR.out, rfl⟩⟩, hB0⟩
end Go.Proofs.YtdicoepjkngikaaDoor

/-
 strconv.ParseUint by its own name; a text read.
-/
set_option linter.unusedVariables false
set_option linter.unusedSimpArgs false
namespace Go.Proofs.YtdicoepjkngikaaDoor
open Go.RowKit
theorem hex2_lt {a b : UInt8} {n : Nat} (h : hex2 a b = some n) : n ≤ 255 := by
  unfold hex2 at h
  cases ha : hexV a with
  | none => rw [ha] at h; cases h
  | some x =>
    cases hb : hexV b with
    | none => rw [ha, hb] at h; cases h
    | some y => rw [ha, hb] at h; injection h with h; have := hexV_lt ha; have := hexV_lt hb; omega
set_option maxHeartbeats 4000000 in
set_option maxRecDepth 100000 in
theorem parseHex_any (B : Nat) (a b : UInt8) (w : World) (hBw : B ≤ w.heap.size) (hJ : LibJ B w) :
    Calls Tryd.prog 59 #[.string ⟨#[a, b]⟩, .int .i64 16, .int .i64 8] w fun e w' => ∃ (n : Nat) (ev : Value), e = .returned (.tuple #[.int .u64 (n : Int), ev]) ∧ (hex2 a b = some n ∧ ev = .nilIface ∨ hex2 a b = none ∧ n = 0 ∧ ∃ t p, ev = .iface t p) ∧ Below w.heap.size w w' := by
  have HX := Lib.hid (parseHexIn_any a b w)
  have HE := Lib.hid (fun (ev : Value) (W : World) (hv : W.cell? ⟨Tryd.laysToErr_ren.g 15, 0, none⟩ = some ev) (hev : ev = .nilIface ∨ ∃ te pe, ev = .iface te pe) => Any.strconv_toError_syntax Tryd.laysToErr ⟨#[80, 97, 114, 115, 101, 85, 105, 110, 116]⟩ ⟨#[a, b]⟩ 16 8 ev W (by show (2 : Nat) ≤ _; decide) hv hev)
  have HV := Lib.hid (fun (W : World) => hJ.syn W)
  generalize (⟨#[a, b]⟩ : ByteArray) = S at *
  go_enter Tryd.func59, Tryd.ntmps59
  go_wp2_with fail
  refine HX.out.mono ?_
  rintro e w1 ⟨⟨n, h⟩, hB1⟩
  rcases h with ⟨hh, rfl⟩ | ⟨hh, rfl⟩
  · go_wp2_with fail
    go_ret2
    exact ⟨n, .nilIface, rfl, .inl ⟨hh, rfl⟩, hB1⟩
  · obtain ⟨tp, p, hv⟩ := HV.out w1 (hB1.mono hBw)
    have h0 : w1.cell? ⟨Tryd.laysToErr_ren.g 15, 0, none⟩ = some (.iface tp p) := (World.var?_cell Tryd.laysAtoi.m15 hv 0).trans rfl
    go_wp2_with fail
    refine (HE.out (.iface tp p) w1 h0 (.inr ⟨tp, p, rfl⟩)).mono ?_
    rintro e w2 ⟨N, rfl, _, _, hB2⟩
    go_wp2_with fail
    go_ret2
    exact ⟨0, _, rfl, .inr ⟨hh, rfl, _, _, rfl⟩, hB1.trans (hB2.mono hB1.size)⟩
end Go.Proofs.YtdicoepjkngikaaDoor

/-
 Contracts of package json: a text read.
-/
set_option linter.unusedVariables false
set_option linter.unusedSimpArgs false
namespace Go.Proofs.YtdicoepjkngikaaDoor
open Go.RowKit
/-- What is to come of a text, where acc was read and l is left. -/
def TxI (T : List UInt8 × RdS) (acc l : List UInt8) (wrong : Bool) : Prop := if wrong = true then T = (acc, l, true) else ∃ f, l.length < f ∧ T = txN f l acc
section
variable {T : List UInt8 × RdS} {acc l : List UInt8}
theorem TxI.wrong (h : TxI T acc l true) : T = (acc, l, true) := by unfold TxI at h; rwa [if_pos rfl] at h
theorem TxI.right (h : TxI T acc l false) : ∃ f, l.length < f + 1 ∧ T = txN (f + 1) l acc := by
  unfold TxI at h
  rw [if_neg (by simp)] at h
  obtain ⟨f, h1, h2⟩ := h
  exact ⟨f - 1, by omega, by rw [h2]; congr 1; omega⟩
theorem TxI.of_right {f : Nat} (h : l.length < f) (h2 : T = txN f l acc) : TxI T acc l false := by unfold TxI; rw [if_neg (by simp)]; exact ⟨f, h, h2⟩
theorem TxI.of_wrong (h2 : T = (acc, l, true)) : TxI T acc l true := by unfold TxI; rw [if_pos rfl]; exact h2
theorem TxI.close (h : TxI T acc l false) (hq : [34] <+: l) : T = (acc, l.drop 1, false) := by
  obtain ⟨f, _, h2⟩ := h.right
  rw [h2, txN.eq_def]; simp only; rw [if_pos hq]
theorem TxI.empty (h : TxI T acc [] false) : TxI T acc [] true := by
  obtain ⟨f, _, h2⟩ := h.right
  rw [txN.eq_def] at h2; exact .of_wrong (by rw [h2]; simp)
theorem TxI.short (h : TxI T acc l false) (hq : ¬ [34] <+: l) (hb : bsu <+: l) (hl : (l.drop 4).length < 2) : TxI T acc (l.drop 4) true := by
  obtain ⟨f, _, h2⟩ := h.right
  have hne : l ≠ [] := by rintro rfl; simp [bsu] at hb
  rw [txN.eq_def] at h2
  simp only at h2
  rw [if_neg hq, if_neg hne, if_pos hb] at h2
  refine .of_wrong ?_
  rw [h2]
  generalize l.drop 4 = d at *
  match d, hl with
  | [], _ => rfl
  | [x], _ => rfl
  | x :: y :: r, h => simp at h; omega
theorem TxI.hex (h : TxI T acc l false) (hq : ¬ [34] <+: l) (hb : bsu <+: l) {a b : UInt8} {r : List UInt8} (hl : l.drop 4 = a :: b :: r) :
    (∀ n, hex2 a b = some n → TxI T (acc ++ [UInt8.ofNat n]) r false) ∧ (hex2 a b = none → TxI T (acc ++ [0]) r true) := by
  obtain ⟨f, hf, h2⟩ := h.right
  have hne : l ≠ [] := by rintro rfl; simp [bsu] at hb
  have hlen := congrArg List.length hl
  simp at hlen
  rw [txN.eq_def] at h2
  simp only at h2
  rw [if_neg hq, if_neg hne, if_pos hb, hl] at h2
  simp only at h2
  constructor
  · intro n hn; rw [hn] at h2; exact .of_right (f := f) (by omega) h2
  · intro hn; rw [hn] at h2; exact .of_wrong h2
theorem TxI.esc (h : TxI T acc l false) (hq : ¬ [34] <+: l) (hb : ¬ bsu <+: l) (he : [92] <+: l) : (∀ c r, l.drop 1 = c :: r → TxI T (acc ++ [c]) r false) ∧ (l.drop 1 = [] → TxI T acc [] true) := by
  obtain ⟨f, hf, h2⟩ := h.right
  have hne : l ≠ [] := by rintro rfl; simp at he
  rw [txN.eq_def] at h2
  simp only at h2
  rw [if_neg hq, if_neg hne, if_neg hb, if_pos he] at h2
  constructor
  · intro c r hd
    have hlen := congrArg List.length hd
    simp at hlen
    rw [hd] at h2
    exact .of_right (f := f) (by omega) h2
  · intro hd; rw [hd] at h2; exact .of_wrong h2
theorem TxI.plain {c : UInt8} {r : List UInt8} (h : TxI T acc (c :: r) false) (hq : ¬ [34] <+: c :: r) (hb : ¬ bsu <+: c :: r) (he : ¬ [92] <+: c :: r) : TxI T (acc ++ [c]) r false := by
  obtain ⟨f, hf, h2⟩ := h.right
  rw [txN.eq_def] at h2
  simp only at h2
  rw [if_neg hq, if_neg (by simp), if_neg hb, if_neg he] at h2
  exact .of_right (f := f) (by simp at hf; omega) h2
end
theorem isL_pos {p l : List UInt8} (h : p <+: l) : isL p l = (true, l.drop p.length) := by unfold isL; rw [if_pos h]
theorem isL_neg {p l : List UInt8} (h : ¬ p <+: l) : isL p l = (false, l) := by unfold isL; rw [if_neg h]
theorem txI_start (s : RdS) : TxI (txR s) [] (mustL [34] s).1 (mustL [34] s).2 := by
  unfold txR
  cases h : (mustL [34] s).2
  · rw [if_neg (by simp)]
    exact .of_right (Nat.lt_succ_self _) rfl
  · rw [if_pos rfl]
    exact .of_wrong (by rw [← h])
theorem Buf.rt {U : TypeId} {w w' : World} {base g : Nat} {v : Value} {l : List UInt8} (h : Buf U w base v l) (hR : Rt w g w') (hg : g < base) : Buf U w' base v l :=
  World.ownsRow.kept (row := some g) h hR (.inr (fun h0 => by have := (World.ownsRow.lt h g h0).1; omega))
theorem Rt.gr {w w' w2 : World} {g : Nat} (h : Rt w g w') (k : Below w.heap.size w' w2) : Rt w g w2 :=
  ⟨k.os.trans h.os, k.tape.trans h.tape, k.output.trans h.output, Nat.le_trans h.size k.size, fun b hb hne => (k.block b hb).trans (h.block b hb hne)⟩
theorem u8T : (Tryd.prog.info? 5).map (fun i => (i.zero, i.size, i.bytes)) = some (some (.int .u8 0), 1, 1) := by kernel_rfl
theorem empty_nil : (bstr []).toList.isEmpty = true := by rw [bstr_toList]; rfl
theorem empty_cons {l : List UInt8} (h : l ≠ []) : (bstr l).toList.isEmpty = false := by rw [bstr_toList]; cases l <;> simp_all
set_option maxHeartbeats 8000000 in
set_option maxRecDepth 100000 in
theorem text_any (B g : Nat) (s : RdS) (hl : s.1.length ≤ 60000) (w : World) (hb : RdB w g s) (hBw : B ≤ w.heap.size) (hBg : B ≤ g) (hJ : LibJ B w) :
    Calls Tryd.prog 50 #[.pointer (some ⟨g, 0, none⟩)] w fun e w' => e = .returned (.string (bstr (txR s).1)) ∧ RdB w' g (txR s).2 ∧ Rt w g w' := by
  have hgw : g < w.heap.size := Blk.lt hb
  have HM := Lib.hid (must_any g s ⟨#[34]⟩ w hb)
  have hI := txI_start s
  have hle := mustL_le [34] s
  generalize txR s = T at *
  have HM : Hid (Calls Tryd.prog 13 #[.pointer (some ⟨g, 0, none⟩), .string ⟨#[34]⟩] w fun e w' => e = .returned (.tuple #[]) ∧ RdB w' g (mustL [34] s) ∧ Rt w g w') := HM
  generalize mustL [34] s = s1 at *
  obtain ⟨l1, b1⟩ := s1
  have HI := Lib.hid hI
  have hle : l1.length ≤ 60000 := by have : l1.length ≤ s.1.length := hle; omega
  clear hI hb
  go_enter Tryd.func50, Tryd.ntmps50
  go_wp2_with fail
  refine HM.out.mono ?_
  rintro e w1 ⟨rfl, hb1, hR1⟩
  have hJ1 := Lib.hid (hJ.below (hR1.below hBg hBw))
  have hg1 : g < w1.heap.size := Nat.lt_of_lt_of_le hgw hR1.size
  have hBw1 : B ≤ w1.heap.size := by omega
  clear HM hJ
  go_wp2_with fail
  go_loopg [3] 60002 (fun gk v wx => ∃ (acc l : List UInt8) (b : Bool), Buf 5 wx w1.heap.size v acc ∧ RdB wx g (l, b) ∧ Rt w1 g wx ∧ Hid (TxI T acc l b) ∧ acc.length + l.length ≤ 60000 ∧ l.length + (!b).toNat < gk)
  case atStart => exact ⟨[], l1, b1, Buf.nil _ _ _, hb1, Rt.refl _ _, HI, by simpa using hle, by cases b1 <;> simp <;> omega⟩
  case round =>
    obtain ⟨acc, l, b, hbuf, hbR, hRt, H, hsz, hgk⟩ := hrel
    have hbR' : Blk wr g 44 #[.string (bstr l), .bool b] := hbR
    have c1 : wr.cell? ⟨g, 1, none⟩ = some (.bool b) := hbR'.cell 1
    cases b
    · have HI1 := Lib.hid (is_any g (l, false) ⟨#[34]⟩ wr hbR)
      have HH := Lib.hid H.out
      clear H hb1 HI
      by_cases hq : [34] <+: l
      · have hi := isL_pos hq
        have HT := Lib.hid (HH.out.close hq)
        have HX : Hid (Calls Tryd.prog 38 #[.pointer (some ⟨g, 0, none⟩), .string ⟨#[34]⟩] wr fun e w' => e = .returned (.bool true) ∧ RdB w' g (l.drop 1, false) ∧ Rt wr g w') := by
          have h := HI1.out
          rw [show (⟨#[34]⟩ : ByteArray).data.toList = [34] from rfl, hi] at h
          exact h
        clear hi HI1 hq
        go_wp2_with fail
        refine HX.out.mono ?_
        rintro e w2 ⟨rfl, hb2, hR2⟩
        have hbuf2 := hbuf.rt hR2 hg1
        have hcv := buf_string (P := Tryd.prog) (U := 5) (src := 62) (dst := 9) Tryd.underlying62 Tryd.underlying5 Tryd.underlying9 hbuf2
        go_wp2_with fail
        go_ret
        rw [HT.out]
        exact ⟨rfl, hb2, hR1.trans (hRt.trans hR2)⟩
      · have hi := isL_neg hq
        have HX : Hid (Calls Tryd.prog 38 #[.pointer (some ⟨g, 0, none⟩), .string ⟨#[34]⟩] wr fun e w' => e = .returned (.bool false) ∧ RdB w' g (l, false) ∧ Rt wr g w') := by
          have h := HI1.out
          rw [show (⟨#[34]⟩ : ByteArray).data.toList = [34] from rfl, hi] at h
          exact h
        have HQ := Lib.hid hq
        clear hi HI1 hq
        go_wp2_with fail
        refine HX.out.mono ?_
        rintro e w2 ⟨rfl, hb2, hR2⟩
        clear HX
        have hbuf2 := hbuf.rt hR2 hg1
        have hRt2 := hRt.trans hR2
        clear hbuf hbR hbR' c1 hRt hR2
        have hb2' : Blk w2 g 44 #[.string (bstr l), .bool false] := hb2
        have d0 : w2.cell? ⟨g, 0, none⟩ = some (.string (bstr l)) := hb2'.cell 0
        have d1 : w2.cell? ⟨g, 1, none⟩ = some (.bool false) := hb2'.cell 1
        have g1 := hb2'.frozen 1
        by_cases hl0 : l = []
        · subst hl0
          have he := empty_nil
          have HE := Lib.hid HH.out.empty
          go_wp2_with fail
          go_roundg (gk - 1)
          case rel => exact ⟨acc, [], true, hbuf2.rt (Rt.set_ _ _ _ _) hg1, hb2'.set_ 1 _, hRt2.trans (Rt.set_ _ _ _ _), HE.out, hsz, by simp at hgk ⊢; omega⟩
          case measure => simp at hgk; omega
        · have he := empty_cons hl0
          have HI2 := Lib.hid (is_any g (l, false) ⟨#[92, 117, 48, 48]⟩ w2 hb2)
          clear hl0
          by_cases hu : bsu <+: l
          · have hi := isL_pos hu
            have HX : Hid (Calls Tryd.prog 38 #[.pointer (some ⟨g, 0, none⟩), .string ⟨#[92, 117, 48, 48]⟩] w2 fun e w' => e = .returned (.bool true) ∧ RdB w' g (l.drop 4, false) ∧ Rt w2 g w') := by
              have h := HI2.out
              rw [show (⟨#[92, 117, 48, 48]⟩ : ByteArray).data.toList = bsu from rfl, hi] at h
              exact h
            have hS := Lib.hid (HH.out.short HQ.out hu)
            have hX := Lib.hid (fun a b r h => HH.out.hex HQ.out hu (a := a) (b := b) (r := r) h)
            have hdl : (l.drop 4).length ≤ l.length := by simp
            clear hi HI2 hu
            generalize l.drop 4 = d at *
            go_wp2_with fail
            refine HX.out.mono ?_
            rintro e w3 ⟨rfl, hb3, hR3⟩
            clear HX d0 d1 g1 hb2' hb2
            have hbuf3 := hbuf2.rt hR3 hg1
            have hRt3 := hRt2.trans hR3
            clear hbuf2 hRt2 hR3
            have hb3' : Blk w3 g 44 #[.string (bstr d), .bool false] := hb3
            have d0 : w3.cell? ⟨g, 0, none⟩ = some (.string (bstr d)) := hb3'.cell 0
            have d1 : w3.cell? ⟨g, 1, none⟩ = some (.bool false) := hb3'.cell 1
            have g1 := hb3'.frozen 1
            have hsz3 : (bstr d).size = d.length := bstr_size d
            by_cases hs : d.length < 2
            · have hs2 : ((bstr d).size : Int) < 2 := by omega
              have HE := Lib.hid (hS.out hs)
              go_wp2_with fail
              go_roundg (gk - 1)
              case rel => exact ⟨acc, d, true, hbuf3.rt (Rt.set_ _ _ _ _) hg1, hb3'.set_ 1 _, hRt3.trans (Rt.set_ _ _ _ _), HE.out, by omega, by simp at hgk ⊢; omega⟩
              case measure => simp at hgk; omega
            · have hs2 : ¬ ((bstr d).size : Int) < 2 := by omega
              obtain ⟨a, b, r, rfl⟩ : ∃ a b r, d = a :: b :: r := by
                match d, hs with
                | [], h => simp at h
                | [x], h => simp at h
                | x :: y :: r, _ => exact ⟨x, y, r, rfl⟩
              have hx := hX.out a b r rfl
              have HXX := Lib.hid hx
              have hw3 : w1.heap.size ≤ w3.heap.size := hRt3.size
              have hgw3 : g < w3.heap.size := by omega
              have HP := Lib.hid (parseHex_any B a b w3 (by omega) (hJ1.out.below (hRt3.below hBg hBw1)))
              have hex : (bstr (a :: b :: r)).extract 0 2 = ⟨#[a, b]⟩ := by
                apply bext; rw [extract_list, bstr_list]; rfl
              have hex2' : (bstr (a :: b :: r)).extract 2 (bstr (a :: b :: r)).size = bstr r := drop_ext (a :: b :: r) 2 (by simp)
              rw [← hex] at HP
              clear hx hX hS hs
              have h2 : (2 : Int) ≤ ((bstr (a :: b :: r)).size : Int) := by omega
              have hlr : (a :: b :: r).length = r.length + 2 := rfl
              have HEX := Lib.hid hex2'
              clear hex hex2'
              generalize bstr (a :: b :: r) = S at *
              go_wp2_with fail
              refine HP.out.mono ?_
              rintro e w4 ⟨n, ev, rfl, hev, hB4⟩
              have hR4 := Rt.new (g := g) hB4
              have hb4 : Blk w4 g 44 #[.string S, .bool false] := hb3'.below hB4 hgw3
              have hbuf4 := hbuf3.rt hR4 hg1
              have hRt4 := hRt3.trans hR4
              clear d0 d1 g1 hbuf3 hRt3 hb3 hb3' hR4 HP
              have hbd := hbuf4.drew
              have hbsd : w1.heap.size ≤ w4.drew.heap.size := hRt4.size
              have z0 : w4.drew.cell? ⟨g, 0, none⟩ = some (.string S) := hb4.cell 0
              have z1 : w4.drew.cell? ⟨g, 1, none⟩ = some (.bool false) := hb4.cell 1
              have k0 := hb4.frozen 0
              have k1 := hb4.frozen 1
              have hSr : S.extract 2 S.size = bstr r := HEX.out
              go_wp2_with fail
              obtain ⟨c, hcn, hres⟩ : ∃ (c : UInt8), n = c.toNat ∧ (hex2 a b = some n ∧ ev = Value.nilIface ∧ Hid (TxI T (acc ++ [c]) r false) ∨ (∃ t p, ev = .iface t p) ∧ Hid (TxI T (acc ++ [c]) r true)) := by
                rcases hev with ⟨h1, h2⟩ | ⟨h1, rfl, h3⟩
                · have hlt : n < 256 := Nat.lt_succ_of_le (hex2_lt h1)
                  refine ⟨UInt8.ofNat n, by simp; omega, .inl ⟨h1, h2, HXX.out.1 n h1⟩⟩
                · exact ⟨0, rfl, .inr ⟨h3, HXX.out.2 h1⟩⟩
              subst hcn
              have hc256 := c.toNat_lt
              have hlen : acc.length + [c].length ≤ 140737488355328 := by simp; omega
              have HLX := Lib.hid (show (#[Value.int .u8 (IntKind.u8.wrap (c.toNat : Int))]).toList = bytesV [c] by rw [wraps_u8 _ (by omega) (by omega)]; rfl)
              clear hev HXX
              have z7 : (w4.alloc (Obj.cells #[Value.int .u8 (IntKind.u8.wrap (c.toNat : Int))] 5)).cell? ⟨g, 0, none⟩ = some (.string S) := (hb4.below ((Below.refl _ _).alloc (Nat.le_refl _) _) hb4.lt).cell 0
              have HEX2 : Hid (S.extract 2 (r.length + 2) = bstr r) := by
                have h := hSr
                rw [hsz3, hlr] at h
                exact h
              rcases hres with ⟨_, rfl, HT⟩ | ⟨⟨tt, pp, rfl⟩, HT⟩
              · go_region_law (refine step_buf_lit rfl _ _ 62 rfl 5 Tryd.underlying62 u8T w1.heap.size _ _ rfl hbd #[.int .u8 (IntKind.u8.wrap (c.toNat : Int))] 5 [c] HLX.out 1 1 rfl rfl hlen hbsd ?_; intro v2 w5 hb5 hG5; have hb6 := hG5.blk hb4.drew (by decide); have y0 : w5.cell? ⟨g, 0, none⟩ = some (.string S) := hb6.cell 0; have y5 : w5.cell? ⟨g, 1, none⟩ = some (.bool false) := hb6.cell 1; have y1 := hb6.frozen 0; have y2 := hb6.frozen 1; have y3 : (w5.setCell ⟨g, 0, none⟩ (.string (S.extract 2 S.size))).frozen? ⟨g, 1, none⟩ = false := (hb6.set_ 0 _).frozen 1)
                all_goals
                  go_wp2_with fail
                  go_roundg (gk - 1)
                  case rel => exact ⟨acc ++ [c], r, false, (hb5.rt (Rt.set_ _ _ _ _) hg1).rt (Rt.set_ _ _ _ _) hg1, by unfold RdB; rw [← HEX2.out]; exact (hb6.set_ 0 _).set_ 1 _, ((hRt4.gr ((Below.refl _ _).drew.trans hG5.1)).trans (Rt.set_ _ _ _ _)).trans (Rt.set_ _ _ _ _), HT, by simp at hdl ⊢; omega, by simp at hgk hdl ⊢; omega⟩
                  case measure => simp at hgk hdl; omega
              · go_region_law (refine step_buf_lit rfl _ _ 62 rfl 5 Tryd.underlying62 u8T w1.heap.size _ _ rfl hbd #[.int .u8 (IntKind.u8.wrap (c.toNat : Int))] 5 [c] HLX.out 1 1 rfl rfl hlen hbsd ?_; intro v2 w5 hb5 hG5; have hb6 := hG5.blk hb4.drew (by decide); have y0 : w5.cell? ⟨g, 0, none⟩ = some (.string S) := hb6.cell 0; have y5 : w5.cell? ⟨g, 1, none⟩ = some (.bool false) := hb6.cell 1; have y1 := hb6.frozen 0; have y2 := hb6.frozen 1; have y3 : (w5.setCell ⟨g, 0, none⟩ (.string (S.extract 2 S.size))).frozen? ⟨g, 1, none⟩ = false := (hb6.set_ 0 _).frozen 1)
                all_goals
                  go_wp2_with fail
                  go_roundg (gk - 1)
                  case rel => exact ⟨acc ++ [c], r, true, (hb5.rt (Rt.set_ _ _ _ _) hg1).rt (Rt.set_ _ _ _ _) hg1, by unfold RdB; rw [← HEX2.out]; exact (hb6.set_ 0 _).set_ 1 _, ((hRt4.gr ((Below.refl _ _).drew.trans hG5.1)).trans (Rt.set_ _ _ _ _)).trans (Rt.set_ _ _ _ _), HT, by simp at hdl ⊢; omega, by simp at hgk hdl ⊢; omega⟩
                  case measure => simp at hgk hdl; omega
          · have hi := isL_neg hu
            have HX : Hid (Calls Tryd.prog 38 #[.pointer (some ⟨g, 0, none⟩), .string ⟨#[92, 117, 48, 48]⟩] w2 fun e w' => e = .returned (.bool false) ∧ RdB w' g (l, false) ∧ Rt w2 g w') := by
              have h := HI2.out
              rw [show (⟨#[92, 117, 48, 48]⟩ : ByteArray).data.toList = bsu from rfl, hi] at h
              exact h
            have HU := Lib.hid hu
            clear hi HI2 hu
            go_wp2_with fail
            refine HX.out.mono ?_
            rintro e w3 ⟨rfl, hb3, hR3⟩
            clear HX d0 d1 g1 hb2' hb2
            have hbuf3 := hbuf2.rt hR3 hg1
            have hRt3 := hRt2.trans hR3
            have HI3 := Lib.hid (is_any g (l, false) ⟨#[92]⟩ w3 hb3)
            clear hbuf2 hRt2 hR3 hb3
            by_cases he92 : [92] <+: l
            · have hi := isL_pos he92
              have HX : Hid (Calls Tryd.prog 38 #[.pointer (some ⟨g, 0, none⟩), .string ⟨#[92]⟩] w3 fun e w' => e = .returned (.bool true) ∧ RdB w' g (l.drop 1, false) ∧ Rt w3 g w') := by
                have h := HI3.out
                rw [show (⟨#[92]⟩ : ByteArray).data.toList = [92] from rfl, hi] at h
                exact h
              have hE := Lib.hid (HH.out.esc HQ.out HU.out he92)
              have hdl : (l.drop 1).length ≤ l.length := by simp
              have hdl2 : (l.drop 1).length < l.length := by
                have : l ≠ [] := by rintro rfl; simp at he92
                cases l with
                | nil => exact absurd rfl this
                | cons x y => simp
              clear hi HI3 he92
              generalize l.drop 1 = d at *
              go_wp2_with fail
              refine HX.out.mono ?_
              rintro e w4 ⟨rfl, hb4, hR4⟩
              clear HX
              have hbuf4 := hbuf3.rt hR4 hg1
              have hRt4 := hRt3.trans hR4
              clear hbuf3 hRt3 hR4
              have hb4' : Blk w4 g 44 #[.string (bstr d), .bool false] := hb4
              have d0 : w4.cell? ⟨g, 0, none⟩ = some (.string (bstr d)) := hb4'.cell 0
              have d1 : w4.cell? ⟨g, 1, none⟩ = some (.bool false) := hb4'.cell 1
              have g1 := hb4'.frozen 1
              have g0 := hb4'.frozen 0
              cases d with
              | nil =>
                have he2 := empty_nil
                have HE := Lib.hid (hE.out.2 rfl)
                go_wp2_with fail
                go_roundg (gk - 1)
                case rel => exact ⟨acc, [], true, hbuf4.rt (Rt.set_ _ _ _ _) hg1, hb4'.set_ 1 _, hRt4.trans (Rt.set_ _ _ _ _), HE.out, by simp; omega, by simp at hgk hdl2 ⊢; omega⟩
                case measure => simp at hgk; omega
              | cons c r =>
                have HT := Lib.hid (hE.out.1 c r rfl)
                have hgl := Blk.lt hb4'
                have hne14 := empty_cons (List.cons_ne_nil c r)
                have hsz14 : (bstr (c :: r)).size = r.length + 1 := bstr_size _
                have h014 : 0 < (bstr (c :: r)).size := by omega
                have h114 : (1 : Int) ≤ ((bstr (c :: r)).size : Int) := by omega
                have h115 : (1 : Int) ≤ (r.length : Int) + 1 := by omega
                have HC := Lib.hid (show (bstr (c :: r))[0] = c from rfl)
                have HEX2 := Lib.hid (show (bstr (c :: r)).extract 1 (r.length + 1) = bstr r by have h := drop_ext (c :: r) 1 (by simp); rw [hsz14] at h; exact h)
                have hlr : (c :: r).length = r.length + 1 := rfl
                generalize bstr (c :: r) = S at *
                have hlen : acc.length + [S[0]].length ≤ 140737488355328 := by simp; omega
                have hbd := hbuf4.drew
                have hbsd : w1.heap.size ≤ w4.drew.heap.size := hRt4.size
                have z0 : w4.cell? ⟨g, 0, none⟩ = some (.string S) := hb4'.cell 0
                have z7 : (w4.alloc (Obj.cells #[Value.int .u8 (S[0].toNat : Int)] 5)).cell? ⟨g, 0, none⟩ = some (.string S) := (hb4'.below ((Below.refl _ _).alloc (Nat.le_refl _) _) hgl).cell 0
                go_wp2_with fail
                go_region_law (refine step_buf_lit rfl _ _ 62 rfl 5 Tryd.underlying62 u8T w1.heap.size _ _ rfl hbd #[.int .u8 (S[0].toNat : Int)] 5 [S[0]] rfl 1 1 rfl rfl hlen hbsd ?_; intro v2 w9 hb9 hG9; have hb8 := hG9.blk hb4'.drew (by decide); have y0 : w9.cell? ⟨g, 0, none⟩ = some (.string S) := hb8.cell 0; have y1 := hb8.frozen 0)
                all_goals
                  go_wp2_with fail
                  go_roundg (gk - 1)
                  case rel => exact ⟨acc ++ [c], r, false, by rw [← HC.out]; exact hb9.rt (Rt.set_ _ _ _ _) hg1, by unfold RdB; rw [← HEX2.out]; exact hb8.set_ 0 _, (hRt4.gr ((Below.refl _ _).drew.trans hG9.1)).trans (Rt.set_ _ _ _ _), HT, by simp at hdl ⊢; omega, by simp at hgk hdl ⊢; omega⟩
                  case measure => simp at hgk hdl; omega
            · have hi := isL_neg he92
              have HX : Hid (Calls Tryd.prog 38 #[.pointer (some ⟨g, 0, none⟩), .string ⟨#[92]⟩] w3 fun e w' => e = .returned (.bool false) ∧ RdB w' g (l, false) ∧ Rt w3 g w') := by
                have h := HI3.out
                rw [show (⟨#[92]⟩ : ByteArray).data.toList = [92] from rfl, hi] at h
                exact h
              obtain ⟨c, r, rfl⟩ : ∃ c r, l = c :: r := by
                cases l with
                | nil => exact absurd he (by rw [empty_nil]; simp)
                | cons c r => exact ⟨c, r, rfl⟩
              have HT := Lib.hid (HH.out.plain HQ.out HU.out he92)
              have hdl : (c :: r).length ≤ (c :: r).length := Nat.le_refl _
              clear hi HI3 he92
              go_wp2_with fail
              refine HX.out.mono ?_
              rintro e w4 ⟨rfl, hb4, hR4⟩
              clear HX
              have hbuf4 := hbuf3.rt hR4 hg1
              have hRt4 := hRt3.trans hR4
              clear hbuf3 hRt3 hR4
              have hb4' : Blk w4 g 44 #[.string (bstr (c :: r)), .bool false] := hb4
              have d0 : w4.cell? ⟨g, 0, none⟩ = some (.string (bstr (c :: r))) := hb4'.cell 0
              have g0 := hb4'.frozen 0
              have hgl := Blk.lt hb4'
              have hne14 := empty_cons (List.cons_ne_nil c r)
              have hsz14 : (bstr (c :: r)).size = r.length + 1 := bstr_size _
              have h014 : 0 < (bstr (c :: r)).size := by omega
              have h114 : (1 : Int) ≤ ((bstr (c :: r)).size : Int) := by omega
              have h115 : (1 : Int) ≤ (r.length : Int) + 1 := by omega
              have HC := Lib.hid (show (bstr (c :: r))[0] = c from rfl)
              have HEX2 := Lib.hid (show (bstr (c :: r)).extract 1 (r.length + 1) = bstr r by have h := drop_ext (c :: r) 1 (by simp); rw [hsz14] at h; exact h)
              have hlr : (c :: r).length = r.length + 1 := rfl
              generalize bstr (c :: r) = S at *
              have hlen : acc.length + [S[0]].length ≤ 140737488355328 := by simp; omega
              have hbd := hbuf4.drew
              have hbsd : w1.heap.size ≤ w4.drew.heap.size := hRt4.size
              have z0 : w4.cell? ⟨g, 0, none⟩ = some (.string S) := hb4'.cell 0
              have z7 : (w4.alloc (Obj.cells #[Value.int .u8 (S[0].toNat : Int)] 5)).cell? ⟨g, 0, none⟩ = some (.string S) := (hb4'.below ((Below.refl _ _).alloc (Nat.le_refl _) _) hgl).cell 0
              go_wp2_with fail
              go_region_law (refine step_buf_lit rfl _ _ 62 rfl 5 Tryd.underlying62 u8T w1.heap.size _ _ rfl hbd #[.int .u8 (S[0].toNat : Int)] 5 [S[0]] rfl 1 1 rfl rfl hlen hbsd ?_; intro v2 w9 hb9 hG9; have hb8 := hG9.blk hb4'.drew (by decide); have y0 : w9.cell? ⟨g, 0, none⟩ = some (.string S) := hb8.cell 0; have y1 := hb8.frozen 0)
              all_goals
                go_wp2_with fail
                go_roundg (gk - 1)
                case rel => exact ⟨acc ++ [c], r, false, by rw [← HC.out]; exact hb9.rt (Rt.set_ _ _ _ _) hg1, by unfold RdB; rw [← HEX2.out]; exact hb8.set_ 0 _, (hRt4.gr ((Below.refl _ _).drew.trans hG9.1)).trans (Rt.set_ _ _ _ _), HT, by simp at hdl ⊢; omega, by simp at hgk hdl ⊢; omega⟩
                case measure => simp at hgk hdl; omega
    · have hT := H.out.wrong
      have hcv := buf_string (P := Tryd.prog) (U := 5) (src := 62) (dst := 9) Tryd.underlying62 Tryd.underlying5 Tryd.underlying9 hbuf
      have HT := Lib.hid hT
      clear hT
      go_wp2_with fail
      go_ret
      rw [HT.out]
      exact ⟨rfl, hbR, hR1.trans hRt⟩
end Go.Proofs.YtdicoepjkngikaaDoor

/-
 Contracts of package json: a record read.
-/
set_option linter.unusedVariables false
set_option linter.unusedSimpArgs false
namespace Go.Proofs.YtdicoepjkngikaaDoor
open Go.RowKit
/-- Nothing has turned but blocks g, X and new ones. -/
structure R2 (w : World) (g X : Nat) (w' : World) : Prop where
  os : w'.os = w.os
  tape : w'.tape = w.tape
  output : w'.output = w.output
  size : w.heap.size ≤ w'.heap.size
  block : ∀ b, b < w.heap.size → b ≠ g → b ≠ X → w'.heap[b]? = w.heap[b]?
section
variable {w w' w2 : World} {g X : Nat}
theorem R2.refl (w : World) (g X : Nat) : R2 w g X w := ⟨rfl, rfl, rfl, Nat.le_refl _, fun _ _ _ _ => rfl⟩
theorem R2.trans (h : R2 w g X w') (k : R2 w' g X w2) : R2 w g X w2 :=
  ⟨k.os.trans h.os, k.tape.trans h.tape, k.output.trans h.output, Nat.le_trans h.size k.size, fun b hb h1 h2 => (k.block b (Nat.lt_of_lt_of_le hb h.size) h1 h2).trans (h.block b hb h1 h2)⟩
theorem Rt.r2 (h : Rt w g w') (X : Nat) : R2 w g X w' := ⟨h.os, h.tape, h.output, h.size, fun b hb h1 _ => h.block b hb (fun h0 => h1 (by injection h0))⟩
theorem R2.setX (w : World) (g X i : Nat) (u : Value) : R2 w g X (w.setCell ⟨X, i, none⟩ u) :=
  ⟨rfl, rfl, rfl, by simp, fun k hk _ hne => Below.heap_setCell w ⟨X, i, none⟩ u k (fun h0 => hne (by rw [h0]))⟩
theorem R2.blk (h : R2 w g X w') {b : Nat} {t : TypeId} {cs : Array Value} (hb : Blk w b t cs) (h1 : b ≠ g) (h2 : b ≠ X) : Blk w' b t cs := (h.block b hb.lt h1 h2).trans hb
theorem R2.below (h : R2 w g X w') {B : Nat} (hB : B ≤ g) (hX : B ≤ X) (hw : B ≤ w.heap.size) : Below B w w' :=
  ⟨h.os, h.tape, h.output, h.size, fun k hk => h.block k (by omega) (by omega) (by omega)⟩
end
def specF (fs : List FldP) : Spec := fs.map fun f => (f.name, f.v.isNum)
/-- Fields are read up to k. -/
def FdI (R : List FV × RdS) (p : Spec) (k : Nat) (vs : List FV) (s : RdS) : Prop := vs.length = k ∧ R = (vs ++ (fieldsR (decide (0 < k)) (p.drop k) s).1, (fieldsR (decide (0 < k)) (p.drop k) s).2)
theorem FdI.start (p : Spec) (s : RdS) : FdI (fieldsR false p s) p 0 [] s := ⟨rfl, by simp⟩
theorem FdI.step {R : List FV × RdS} {p : Spec} {k : Nat} {vs : List FV} {s : RdS} {n : ByteArray} {b : Bool} (h : FdI R p k vs s) (hp : p[k]? = some (n, b)) :
    FdI R p (k + 1) (vs ++ [(fieldR n b (if 0 < k then mustL [44] s else s)).1]) (fieldR n b (if 0 < k then mustL [44] s else s)).2 := by
  obtain ⟨hk, hp2⟩ := List.getElem?_eq_some_iff.1 hp
  have hd : p.drop k = (n, b) :: p.drop (k + 1) := by rw [List.drop_eq_getElem_cons hk, hp2]
  refine ⟨by simp [h.1], ?_⟩
  rw [h.2, hd]
  simp only [fieldsR, decide_eq_true_eq]
  simp
theorem FdI.fin {R : List FV × RdS} {p : Spec} {vs : List FV} {s : RdS} (h : FdI R p p.length vs s) : R = (vs, s) := by
  rw [h.2, List.drop_length]; simp [fieldsR]
theorem numR_le (s : RdS) : (numR s).2.1.length ≤ s.1.length := by unfold numR; simp
theorem fieldR_num (n : ByteArray) (s : RdS) : fieldR n true s = (.num (numR (mustL (quoteL n.data.toList ++ [58]) s)).1, (numR (mustL (quoteL n.data.toList ++ [58]) s)).2) := rfl
theorem fieldR_txt (n : ByteArray) (s : RdS) : fieldR n false s = (.txt (bstr (txR (mustL (quoteL n.data.toList ++ [58]) s)).1), (txR (mustL (quoteL n.data.toList ++ [58]) s)).2) := rfl
theorem name_colon (l : List UInt8) : (bstr l ++ (⟨#[58]⟩ : ByteArray)).data.toList = l ++ [58] := by simp [bstr]
theorem set_mid (vs r : List FV) (v u : FV) : ((((vs ++ v :: r).map FV.val).toArray).setIfInBounds vs.length u.val) = (((vs ++ [u]) ++ r).map FV.val).toArray := by
  simp [List.setIfInBounds_toArray, List.set_append]
set_option maxHeartbeats 8000000 in
set_option maxRecDepth 100000 in
theorem robject_any (B g X F c : Nat) (T : TypeId) (hT : T ≠ 44) (hT2 : T ≠ 94) (fs : List FldP) (cs : Array Value) (s : RdS) (w : World) (hb : RdB w g s)
    (hX : Blk w X T ((fs.map (·.v)).map FV.val).toArray) (hF : Blk w F 94 cs) (hcs : cs.toList = (fs.map fldRow).flatten) (hp : ∀ k (h : k < fs.length), fs[k].p = ⟨X, k, none⟩) (hn : fs.length ≤ 5)
    (hnm : ∀ f ∈ fs, f.name.size ≤ 16) (hl : s.1.length ≤ 60000) (hBg : B ≤ g) (hBX : B ≤ X) (hBw : B ≤ w.heap.size) (hJ : LibJ B w) :
    Calls Tryd.prog 41 #[.pointer (some ⟨g, 0, none⟩), .slice (some ⟨F, 0, none⟩) fs.length c] w fun e w' => e = .returned (.tuple #[]) ∧ Blk w' X T ((objR (specF fs) s).1.map FV.val).toArray ∧ RdB w' g (objR (specF fs) s).2 ∧ R2 w g X w' := by
  have hz := zero_field
  have hgw : g < w.heap.size := Blk.lt hb
  have hXw : X < w.heap.size := hX.lt
  have hFw : F < w.heap.size := hF.lt
  have hgX : g ≠ X := Blk.ne_ (t := 44) hb hX (Ne.symm hT)
  have hFg : F ≠ g := Blk.ne_ hF (t' := 44) hb (by decide)
  have hFX : F ≠ X := Blk.ne_ hF hX (Ne.symm hT2)
  have HM := Lib.hid (must_any g s ⟨#[123]⟩ w hb)
  have hO : objR (specF fs) s = ((fieldsR false (specF fs) (mustL [123] s)).1, mustL [125] (fieldsR false (specF fs) (mustL [123] s)).2) := rfl
  have hI := FdI.start (specF fs) (mustL [123] s)
  have hle : (mustL [123] s).1.length ≤ 60000 := Nat.le_trans (mustL_le [123] s) hl
  rw [hO]
  generalize fieldsR false (specF fs) (mustL [123] s) = R at *
  have HM : Hid (Calls Tryd.prog 13 #[.pointer (some ⟨g, 0, none⟩), .string ⟨#[123]⟩] w fun e w' => e = .returned (.tuple #[]) ∧ RdB w' g (mustL [123] s) ∧ Rt w g w') := HM
  generalize mustL [123] s = s1 at *
  have HI := Lib.hid hI
  have HP := Lib.hid hp
  have HN := Lib.hid hnm
  have HC := Lib.hid hcs
  clear hI hO hp hnm hcs
  go_enter Tryd.func41, Tryd.ntmps41
  go_wp2_with fail
  refine HM.out.mono ?_
  rintro e w1 ⟨rfl, hb1, hR1⟩
  have hX1 := hR1.blk hX (Ne.symm hgX)
  have hR1 := hR1.r2 X
  clear HM
  go_wp2_with fail
  go_loopg [10] (fs.length + 1) (fun gk i wx => ∃ (k : Nat) (vs : List FV) (q : RdS), i = .int .i64 k ∧ k ≤ fs.length ∧ Blk wx X T ((vs ++ (fs.map (·.v)).drop k).map FV.val).toArray ∧ RdB wx g q ∧ R2 w g X wx ∧ Hid (FdI R (specF fs) k vs q) ∧ q.1.length ≤ 60000 ∧ fs.length < gk + k)
  case atStart => exact ⟨0, [], s1, rfl, Nat.zero_le _, by simpa using hX1, hb1, hR1, HI, hle, by omega⟩
  case round =>
    obtain ⟨k, vs, q, rfl, hk, hXr, hbr, hRr, H, hq, hgk⟩ := hrel
    by_cases hlt : k < fs.length
    · have hx : fs[k]? = some fs[k] := List.getElem?_eq_getElem hlt
      have hsp : (specF fs)[k]? = some (fs[k].name, fs[k].v.isNum) := by unfold specF; rw [List.getElem?_map, hx]; rfl
      have hst := H.out.step hsp
      have hFr := hRr.blk hF hFg hFX
      obtain ⟨a, ha, _, _, hat⟩ := (hFr.elts (fldRow_len fs) HC.out).at_ (k := k) (r := fldRow fs[k]) (by rw [List.getElem?_map, hx]; rfl)
      injection ha with ha
      subst ha
      have hpk := HP.out k hlt
      have hnk := HN.out fs[k] (List.getElem_mem hlt)
      have hdk : (fs.map (·.v)).drop k = fs[k].v :: (fs.map (·.v)).drop (k + 1) := by rw [List.drop_eq_getElem_cons (by simpa using hlt)]; simp
      have hvl : vs.length = k := H.out.1
      rw [hdk] at hXr
      have hset := set_mid vs ((fs.map (·.v)).drop (k + 1)) fs[k].v
      rw [hvl] at hset
      have hck : (((vs ++ fs[k].v :: (fs.map (·.v)).drop (k + 1)).map FV.val).toArray)[k]? = some fs[k].v.val := by
        simp [← hvl]
      have hXc : ∀ (W : World), Blk W X T ((vs ++ fs[k].v :: (fs.map (·.v)).drop (k + 1)).map FV.val).toArray → W.cell? ⟨X, k, none⟩ = some fs[k].v.val := fun W h => by rw [h.cell k, hck]
      have hq0 : (if 0 < k then mustL [44] q else q).1.length ≤ 60000 := by
        split
        · exact Nat.le_trans (mustL_le _ _) hq
        · exact hq
      have HST := Lib.hid hst
      have HSET := Lib.hid hset
      have HXC := Lib.hid hXc
      have hadd : (⟨F, 0, none⟩ : Addr).add (k * 3) = ⟨F, k * 3, none⟩ := by unfold Addr.add; split <;> simp_all
      rw [hadd] at hat
      have hat1 : At wr ⟨F, k * 3, none⟩ [.string fs[k].name, .pointer (if fs[k].v.isNum = true then some fs[k].p else none), .pointer (if fs[k].v.isNum = true then none else some fs[k].p)] := hat
      rw [hpk] at hat1
      have hJr := Lib.hid (hJ.below (hRr.below hBg hBX hBw))
      clear hst hset hck hXc hdk hsp hx hat hadd hpk H HC HP HN hFr
      obtain ⟨tl, htl⟩ : ∃ tl, tl = (fs.map (·.v)).drop (k + 1) := ⟨_, rfl⟩
      rw [← htl] at HSET hXr HXC
      have HTL := Lib.hid htl
      clear htl
      generalize fs[k] = f at *
      generalize hcsr : ((vs ++ f.v :: tl).map FV.val).toArray = csr at *
      clear hcsr
      obtain ⟨n, hv⟩ | ⟨s, hv⟩ : (∃ n, f.v = .num n) ∨ ∃ s, f.v = .txt s := by
        cases f.v with
        | num n => exact .inl ⟨_, rfl⟩
        | txt s => exact .inr ⟨_, rfl⟩
      all_goals rw [hv] at hat1 HST HXC
      · have hat2 : At wr ⟨F, k * 3, none⟩ [.string f.name, .pointer (some ⟨X, k, none⟩), .pointer none] := by simpa [FV.isNum] using hat1
        have HST := Lib.hid (by have h := HST.out; rw [show (FV.num n : FV).isNum = true from rfl, fieldR_num] at h; exact h)
        clear hat1
        go_upto_region 4 with (first
          | (refine wpList_load_at rfl _ _ rfl ⟨F, k * 3, none⟩ rfl [.string f.name, .pointer (some ⟨X, k, none⟩), .pointer none] _ hat2 Tryd.underlying94 rfl field_size ?_)
          | (refine wpList_store_new rfl _ _ _ rfl rfl 94 _ _ rfl field_size rfl rfl ?_))
        have bx := Blk.new wr 94 #[.string f.name, .pointer (some ⟨X, k, none⟩), .pointer none]
        have hGW := (Rt.new (g := g) ((Below.refl _ _).alloc (Nat.le_refl wr.heap.size) (.cells #[.string f.name, .pointer (some ⟨X, k, none⟩), .pointer none] 94))).r2 X
        have hgr : g < wr.heap.size := Blk.lt hbr
        have hbW : RdB (wr.alloc (.cells #[.string f.name, .pointer (some ⟨X, k, none⟩), .pointer none] 94)) g q := Blk.alloc hbr _
        have hXW := hXr.alloc (.cells #[.string f.name, .pointer (some ⟨X, k, none⟩), .pointer none] 94)
        generalize wr.alloc (.cells #[.string f.name, .pointer (some ⟨X, k, none⟩), .pointer none] 94) = W at *
        clear hat2
        rcases Nat.eq_zero_or_pos k with h0 | h0
        · have hd : decide (0 < k) = false := by simp [h0]
          rw [if_neg (show ¬ 0 < k by omega)] at HST hq0
          clear h0
          obtain ⟨w2, hw2⟩ : ∃ w2, w2 = W := ⟨_, rfl⟩
          subst hw2
          obtain ⟨q0, hqq⟩ : ∃ q0, q0 = q := ⟨_, rfl⟩
          subst hqq
          have hb2 := hbW
          have bx2 := bx
          have hR2 := hGW
          have hX2 := hXW
          clear hbW bx hGW hXW
          have x0 : w2.cell? ⟨wr.heap.size, 0, none⟩ = some (.string f.name) := bx2.cell 0
          go_wp2_with fail
          refine (Quote_any f.name w2 (by omega)).mono ?_
          rintro e w3 ⟨rfl, hB3⟩
          have hR3 := hR2.trans ((Rt.new (g := g) hB3).r2 X)
          have hg2 : g < w2.heap.size := Blk.lt hb2
          have hb3 : RdB w3 g q0 := Blk.below hb2 hB3 hg2
          have hX3 := hX2.below hB3 hX2.lt
          have bx3 := bx2.below hB3 bx2.lt
          clear hB3 hR2 hb2 hX2 bx2 x0 hg2
          have HNC := Lib.hid (name_colon (quoteL f.name.data.toList))
          have hqs := quoteL_len f.name.data.toList
          rw [bl_len] at hqs
          have hSz : (bstr (quoteL f.name.data.toList)).size ≤ 98 := by rw [bstr_size]; omega
          clear hqs
          generalize bstr (quoteL f.name.data.toList) = SQ at *
          have hcat1 : ¬ (9223372036854775807 : Int) < (SQ.size : Int) + 1 := by omega
          have hcat2 : ¬ 9223372036854775807 < SQ.size + 1 := by omega
          go_wp2_with fail
          refine (must_any g q0 _ w3 hb3).mono ?_
          rintro e w4 ⟨rfl, hb4, hR4⟩
          rw [HNC.out] at hb4
          have bx4 := hR4.blk bx3 (by omega)
          have hX4 := hR4.blk hX3 (Ne.symm hgX)
          have hR4 := hR3.trans (hR4.r2 X)
          have hq1 : (mustL (quoteL f.name.data.toList ++ [58]) q0).1.length ≤ 60000 := Nat.le_trans (mustL_le _ _) hq0
          generalize mustL (quoteL f.name.data.toList ++ [58]) q0 = q1 at *
          have x1 : w4.cell? ⟨wr.heap.size, 1, none⟩ = some (.pointer (some ⟨X, k, none⟩)) := bx4.cell 1
          have x2 : w4.cell? ⟨wr.heap.size, 2, none⟩ = some (.pointer none) := bx4.cell 2
          clear hR3 hb3 hX3 bx3
          go_wp2_with fail
          have hb4d : RdB w4.drew g q1 := Blk.drew hb4
          have hJ4 : LibJ B w4.drew := hJr.out.below ((hR4.below hBg hBX (Nat.le_trans hBw hRr.size)).drew)
          have hBw4 : B ≤ w4.drew.heap.size := Nat.le_trans (Nat.le_trans hBw hRr.size) hR4.size
          have HL := Lib.hid (jnumber_any B g q1 hq1 w4.drew hb4d hJ4)
          have d1 : w4.drew.cell? ⟨wr.heap.size, 1, none⟩ = some (.pointer (some ⟨X, k, none⟩)) := bx4.cell 1
          have d2 : w4.drew.cell? ⟨wr.heap.size, 2, none⟩ = some (.pointer none) := bx4.cell 2
          clear hJ4
          go_region_law (go_simp; go_at_call 14; refine HL.out.mono ?_; rintro e w9 ⟨rfl, hb9, hR9⟩; have bx9 := hR9.blk bx4.drew (by omega); have hX9 := hR9.blk hX4.drew (Ne.symm hgX); have y1 : w9.cell? ⟨wr.heap.size, 1, none⟩ = some (.pointer (some ⟨X, k, none⟩)) := bx9.cell 1; have y2 : w9.cell? ⟨wr.heap.size, 2, none⟩ = some (.pointer none) := bx9.cell 2; have y3 := HXC.out w9 hX9; have y4 := hX9.frozen k)
          all_goals
            go_wp2_with fail
            go_roundg (gk - 1)
            case rel => exact ⟨k + 1, vs ++ [.num (numR q1).1], (numR q1).2, by go_num, hlt, by rw [← HTL.out, ← HSET.out]; exact hX9.set_ k _, Blk.far hb9 hgX _, hRr.trans (hR4.trans (((Rt.new (g := g) (Below.refl _ _).drew).trans hR9).r2 X |>.trans (R2.setX _ _ _ _ _))), HST, Nat.le_trans (numR_le q1) hq1, by omega⟩
            case measure => omega
        · have hd : decide (0 < k) = true := by simp [h0]
          rw [if_pos h0] at HST hq0
          clear h0
          have HK := Lib.hid (must_any g q ⟨#[44]⟩ W hbW)
          have HK : Hid (Calls Tryd.prog 13 #[.pointer (some ⟨g, 0, none⟩), .string ⟨#[44]⟩] W fun e w' => e = .returned (.tuple #[]) ∧ RdB w' g (mustL [44] q) ∧ Rt W g w') := HK
          generalize mustL [44] q = q0 at *
          go_wp2_with fail
          refine HK.out.mono ?_
          rintro e w2 ⟨rfl, hb2, hRk⟩
          have bx2 := hRk.blk bx (by omega)
          have hX2 := hRk.blk hXW (Ne.symm hgX)
          have hR2 := hGW.trans (hRk.r2 X)
          clear HK hbW bx hGW hXW hRk
          have x0 : w2.cell? ⟨wr.heap.size, 0, none⟩ = some (.string f.name) := bx2.cell 0
          go_wp2_with fail
          refine (Quote_any f.name w2 (by omega)).mono ?_
          rintro e w3 ⟨rfl, hB3⟩
          have hR3 := hR2.trans ((Rt.new (g := g) hB3).r2 X)
          have hg2 : g < w2.heap.size := Blk.lt hb2
          have hb3 : RdB w3 g q0 := Blk.below hb2 hB3 hg2
          have hX3 := hX2.below hB3 hX2.lt
          have bx3 := bx2.below hB3 bx2.lt
          clear hB3 hR2 hb2 hX2 bx2 x0 hg2
          have HNC := Lib.hid (name_colon (quoteL f.name.data.toList))
          have hqs := quoteL_len f.name.data.toList
          rw [bl_len] at hqs
          have hSz : (bstr (quoteL f.name.data.toList)).size ≤ 98 := by rw [bstr_size]; omega
          clear hqs
          generalize bstr (quoteL f.name.data.toList) = SQ at *
          have hcat1 : ¬ (9223372036854775807 : Int) < (SQ.size : Int) + 1 := by omega
          have hcat2 : ¬ 9223372036854775807 < SQ.size + 1 := by omega
          go_wp2_with fail
          refine (must_any g q0 _ w3 hb3).mono ?_
          rintro e w4 ⟨rfl, hb4, hR4⟩
          rw [HNC.out] at hb4
          have bx4 := hR4.blk bx3 (by omega)
          have hX4 := hR4.blk hX3 (Ne.symm hgX)
          have hR4 := hR3.trans (hR4.r2 X)
          have hq1 : (mustL (quoteL f.name.data.toList ++ [58]) q0).1.length ≤ 60000 := Nat.le_trans (mustL_le _ _) hq0
          generalize mustL (quoteL f.name.data.toList ++ [58]) q0 = q1 at *
          have x1 : w4.cell? ⟨wr.heap.size, 1, none⟩ = some (.pointer (some ⟨X, k, none⟩)) := bx4.cell 1
          have x2 : w4.cell? ⟨wr.heap.size, 2, none⟩ = some (.pointer none) := bx4.cell 2
          clear hR3 hb3 hX3 bx3
          go_wp2_with fail
          have hb4d : RdB w4.drew g q1 := Blk.drew hb4
          have hJ4 : LibJ B w4.drew := hJr.out.below ((hR4.below hBg hBX (Nat.le_trans hBw hRr.size)).drew)
          have hBw4 : B ≤ w4.drew.heap.size := Nat.le_trans (Nat.le_trans hBw hRr.size) hR4.size
          have HL := Lib.hid (jnumber_any B g q1 hq1 w4.drew hb4d hJ4)
          have d1 : w4.drew.cell? ⟨wr.heap.size, 1, none⟩ = some (.pointer (some ⟨X, k, none⟩)) := bx4.cell 1
          have d2 : w4.drew.cell? ⟨wr.heap.size, 2, none⟩ = some (.pointer none) := bx4.cell 2
          clear hJ4
          go_region_law (go_simp; go_at_call 14; refine HL.out.mono ?_; rintro e w9 ⟨rfl, hb9, hR9⟩; have bx9 := hR9.blk bx4.drew (by omega); have hX9 := hR9.blk hX4.drew (Ne.symm hgX); have y1 : w9.cell? ⟨wr.heap.size, 1, none⟩ = some (.pointer (some ⟨X, k, none⟩)) := bx9.cell 1; have y2 : w9.cell? ⟨wr.heap.size, 2, none⟩ = some (.pointer none) := bx9.cell 2; have y3 := HXC.out w9 hX9; have y4 := hX9.frozen k)
          all_goals
            go_wp2_with fail
            go_roundg (gk - 1)
            case rel => exact ⟨k + 1, vs ++ [.num (numR q1).1], (numR q1).2, by go_num, hlt, by rw [← HTL.out, ← HSET.out]; exact hX9.set_ k _, Blk.far hb9 hgX _, hRr.trans (hR4.trans (((Rt.new (g := g) (Below.refl _ _).drew).trans hR9).r2 X |>.trans (R2.setX _ _ _ _ _))), HST, Nat.le_trans (numR_le q1) hq1, by omega⟩
            case measure => omega
      · have hat2 : At wr ⟨F, k * 3, none⟩ [.string f.name, .pointer none, .pointer (some ⟨X, k, none⟩)] := by simpa [FV.isNum] using hat1
        have HST := Lib.hid (by have h := HST.out; rw [show (FV.txt s : FV).isNum = false from rfl, fieldR_txt] at h; exact h)
        clear hat1
        go_upto_region 4 with (first
          | (refine wpList_load_at rfl _ _ rfl ⟨F, k * 3, none⟩ rfl [.string f.name, .pointer none, .pointer (some ⟨X, k, none⟩)] _ hat2 Tryd.underlying94 rfl field_size ?_)
          | (refine wpList_store_new rfl _ _ _ rfl rfl 94 _ _ rfl field_size rfl rfl ?_))
        have bx := Blk.new wr 94 #[.string f.name, .pointer none, .pointer (some ⟨X, k, none⟩)]
        have hGW := (Rt.new (g := g) ((Below.refl _ _).alloc (Nat.le_refl wr.heap.size) (.cells #[.string f.name, .pointer none, .pointer (some ⟨X, k, none⟩)] 94))).r2 X
        have hgr : g < wr.heap.size := Blk.lt hbr
        have hbW : RdB (wr.alloc (.cells #[.string f.name, .pointer none, .pointer (some ⟨X, k, none⟩)] 94)) g q := Blk.alloc hbr _
        have hXW := hXr.alloc (.cells #[.string f.name, .pointer none, .pointer (some ⟨X, k, none⟩)] 94)
        generalize wr.alloc (.cells #[.string f.name, .pointer none, .pointer (some ⟨X, k, none⟩)] 94) = W at *
        clear hat2
        rcases Nat.eq_zero_or_pos k with h0 | h0
        · have hd : decide (0 < k) = false := by simp [h0]
          rw [if_neg (show ¬ 0 < k by omega)] at HST hq0
          clear h0
          obtain ⟨w2, hw2⟩ : ∃ w2, w2 = W := ⟨_, rfl⟩
          subst hw2
          obtain ⟨q0, hqq⟩ : ∃ q0, q0 = q := ⟨_, rfl⟩
          subst hqq
          have hb2 := hbW
          have bx2 := bx
          have hR2 := hGW
          have hX2 := hXW
          clear hbW bx hGW hXW
          have x0 : w2.cell? ⟨wr.heap.size, 0, none⟩ = some (.string f.name) := bx2.cell 0
          go_wp2_with fail
          refine (Quote_any f.name w2 (by omega)).mono ?_
          rintro e w3 ⟨rfl, hB3⟩
          have hR3 := hR2.trans ((Rt.new (g := g) hB3).r2 X)
          have hg2 : g < w2.heap.size := Blk.lt hb2
          have hb3 : RdB w3 g q0 := Blk.below hb2 hB3 hg2
          have hX3 := hX2.below hB3 hX2.lt
          have bx3 := bx2.below hB3 bx2.lt
          clear hB3 hR2 hb2 hX2 bx2 x0 hg2
          have HNC := Lib.hid (name_colon (quoteL f.name.data.toList))
          have hqs := quoteL_len f.name.data.toList
          rw [bl_len] at hqs
          have hSz : (bstr (quoteL f.name.data.toList)).size ≤ 98 := by rw [bstr_size]; omega
          clear hqs
          generalize bstr (quoteL f.name.data.toList) = SQ at *
          have hcat1 : ¬ (9223372036854775807 : Int) < (SQ.size : Int) + 1 := by omega
          have hcat2 : ¬ 9223372036854775807 < SQ.size + 1 := by omega
          go_wp2_with fail
          refine (must_any g q0 _ w3 hb3).mono ?_
          rintro e w4 ⟨rfl, hb4, hR4⟩
          rw [HNC.out] at hb4
          have bx4 := hR4.blk bx3 (by omega)
          have hX4 := hR4.blk hX3 (Ne.symm hgX)
          have hR4 := hR3.trans (hR4.r2 X)
          have hq1 : (mustL (quoteL f.name.data.toList ++ [58]) q0).1.length ≤ 60000 := Nat.le_trans (mustL_le _ _) hq0
          generalize mustL (quoteL f.name.data.toList ++ [58]) q0 = q1 at *
          have x1 : w4.cell? ⟨wr.heap.size, 1, none⟩ = some (.pointer none) := bx4.cell 1
          have x2 : w4.cell? ⟨wr.heap.size, 2, none⟩ = some (.pointer (some ⟨X, k, none⟩)) := bx4.cell 2
          clear hR3 hb3 hX3 bx3
          go_wp2_with fail
          have hb4d : RdB w4.drew g q1 := Blk.drew hb4
          have hJ4 : LibJ B w4.drew := hJr.out.below ((hR4.below hBg hBX (Nat.le_trans hBw hRr.size)).drew)
          have hBw4 : B ≤ w4.drew.heap.size := Nat.le_trans (Nat.le_trans hBw hRr.size) hR4.size
          have HL := Lib.hid (text_any B g q1 hq1 w4.drew hb4d hBw4 hBg hJ4)
          have d1 : w4.drew.cell? ⟨wr.heap.size, 1, none⟩ = some (.pointer none) := bx4.cell 1
          have d2 : w4.drew.cell? ⟨wr.heap.size, 2, none⟩ = some (.pointer (some ⟨X, k, none⟩)) := bx4.cell 2
          clear hJ4
          go_region_law (go_simp; go_at_call 50; refine HL.out.mono ?_; rintro e w9 ⟨rfl, hb9, hR9⟩; have bx9 := hR9.blk bx4.drew (by omega); have hX9 := hR9.blk hX4.drew (Ne.symm hgX); have y1 : w9.cell? ⟨wr.heap.size, 1, none⟩ = some (.pointer none) := bx9.cell 1; have y2 : w9.cell? ⟨wr.heap.size, 2, none⟩ = some (.pointer (some ⟨X, k, none⟩)) := bx9.cell 2; have y3 := HXC.out w9 hX9; have y4 := hX9.frozen k)
          all_goals
            go_wp2_with fail
            go_roundg (gk - 1)
            case rel => exact ⟨k + 1, vs ++ [.txt (bstr (txR q1).1)], (txR q1).2, by go_num, hlt, by rw [← HTL.out, ← HSET.out]; exact hX9.set_ k _, Blk.far hb9 hgX _, hRr.trans (hR4.trans (((Rt.new (g := g) (Below.refl _ _).drew).trans hR9).r2 X |>.trans (R2.setX _ _ _ _ _))), HST, Nat.le_trans (txR_le q1) hq1, by omega⟩
            case measure => omega
        · have hd : decide (0 < k) = true := by simp [h0]
          rw [if_pos h0] at HST hq0
          clear h0
          have HK := Lib.hid (must_any g q ⟨#[44]⟩ W hbW)
          have HK : Hid (Calls Tryd.prog 13 #[.pointer (some ⟨g, 0, none⟩), .string ⟨#[44]⟩] W fun e w' => e = .returned (.tuple #[]) ∧ RdB w' g (mustL [44] q) ∧ Rt W g w') := HK
          generalize mustL [44] q = q0 at *
          go_wp2_with fail
          refine HK.out.mono ?_
          rintro e w2 ⟨rfl, hb2, hRk⟩
          have bx2 := hRk.blk bx (by omega)
          have hX2 := hRk.blk hXW (Ne.symm hgX)
          have hR2 := hGW.trans (hRk.r2 X)
          clear HK hbW bx hGW hXW hRk
          have x0 : w2.cell? ⟨wr.heap.size, 0, none⟩ = some (.string f.name) := bx2.cell 0
          go_wp2_with fail
          refine (Quote_any f.name w2 (by omega)).mono ?_
          rintro e w3 ⟨rfl, hB3⟩
          have hR3 := hR2.trans ((Rt.new (g := g) hB3).r2 X)
          have hg2 : g < w2.heap.size := Blk.lt hb2
          have hb3 : RdB w3 g q0 := Blk.below hb2 hB3 hg2
          have hX3 := hX2.below hB3 hX2.lt
          have bx3 := bx2.below hB3 bx2.lt
          clear hB3 hR2 hb2 hX2 bx2 x0 hg2
          have HNC := Lib.hid (name_colon (quoteL f.name.data.toList))
          have hqs := quoteL_len f.name.data.toList
          rw [bl_len] at hqs
          have hSz : (bstr (quoteL f.name.data.toList)).size ≤ 98 := by rw [bstr_size]; omega
          clear hqs
          generalize bstr (quoteL f.name.data.toList) = SQ at *
          have hcat1 : ¬ (9223372036854775807 : Int) < (SQ.size : Int) + 1 := by omega
          have hcat2 : ¬ 9223372036854775807 < SQ.size + 1 := by omega
          go_wp2_with fail
          refine (must_any g q0 _ w3 hb3).mono ?_
          rintro e w4 ⟨rfl, hb4, hR4⟩
          rw [HNC.out] at hb4
          have bx4 := hR4.blk bx3 (by omega)
          have hX4 := hR4.blk hX3 (Ne.symm hgX)
          have hR4 := hR3.trans (hR4.r2 X)
          have hq1 : (mustL (quoteL f.name.data.toList ++ [58]) q0).1.length ≤ 60000 := Nat.le_trans (mustL_le _ _) hq0
          generalize mustL (quoteL f.name.data.toList ++ [58]) q0 = q1 at *
          have x1 : w4.cell? ⟨wr.heap.size, 1, none⟩ = some (.pointer none) := bx4.cell 1
          have x2 : w4.cell? ⟨wr.heap.size, 2, none⟩ = some (.pointer (some ⟨X, k, none⟩)) := bx4.cell 2
          clear hR3 hb3 hX3 bx3
          go_wp2_with fail
          have hb4d : RdB w4.drew g q1 := Blk.drew hb4
          have hJ4 : LibJ B w4.drew := hJr.out.below ((hR4.below hBg hBX (Nat.le_trans hBw hRr.size)).drew)
          have hBw4 : B ≤ w4.drew.heap.size := Nat.le_trans (Nat.le_trans hBw hRr.size) hR4.size
          have HL := Lib.hid (text_any B g q1 hq1 w4.drew hb4d hBw4 hBg hJ4)
          have d1 : w4.drew.cell? ⟨wr.heap.size, 1, none⟩ = some (.pointer none) := bx4.cell 1
          have d2 : w4.drew.cell? ⟨wr.heap.size, 2, none⟩ = some (.pointer (some ⟨X, k, none⟩)) := bx4.cell 2
          clear hJ4
          go_region_law (go_simp; go_at_call 50; refine HL.out.mono ?_; rintro e w9 ⟨rfl, hb9, hR9⟩; have bx9 := hR9.blk bx4.drew (by omega); have hX9 := hR9.blk hX4.drew (Ne.symm hgX); have y1 : w9.cell? ⟨wr.heap.size, 1, none⟩ = some (.pointer none) := bx9.cell 1; have y2 : w9.cell? ⟨wr.heap.size, 2, none⟩ = some (.pointer (some ⟨X, k, none⟩)) := bx9.cell 2; have y3 := HXC.out w9 hX9; have y4 := hX9.frozen k)
          all_goals
            go_wp2_with fail
            go_roundg (gk - 1)
            case rel => exact ⟨k + 1, vs ++ [.txt (bstr (txR q1).1)], (txR q1).2, by go_num, hlt, by rw [← HTL.out, ← HSET.out]; exact hX9.set_ k _, Blk.far hb9 hgX _, hRr.trans (hR4.trans (((Rt.new (g := g) (Below.refl _ _).drew).trans hR9).r2 X |>.trans (R2.setX _ _ _ _ _))), HST, Nat.le_trans (txR_le q1) hq1, by omega⟩
            case measure => omega
    · obtain rfl : k = fs.length := by omega
      have hf := FdI.fin (p := specF fs) (by simpa [specF] using H.out)
      have HM := Lib.hid (must_any g q ⟨#[125]⟩ wr hbr)
      have HF := Lib.hid hf
      clear hf
      go_wp2_with fail
      refine HM.out.mono ?_
      rintro e w2 ⟨rfl, hb2, hR2⟩
      go_wp2_with fail
      go_end0
      rw [HF.out]
      exact ⟨rfl, by have h := hR2.blk hXr (Ne.symm hgX); rw [List.drop_of_length_le (by simp), List.append_nil] at h; exact h, hb2, hRr.trans (hR2.r2 X)⟩
end Go.Proofs.YtdicoepjkngikaaDoor

/-
 Rows read: plain part, and rows of the call's own.
-/
set_option linter.unusedVariables false
set_option linter.unusedSimpArgs false
namespace Go.Proofs.YtdicoepjkngikaaDoor
open Go.RowKit
theorem objR_le (p : Spec) (s : RdS) : (objR p s).2.1.length ≤ s.1.length := by
  show (mustL [125] (fieldsR false p (mustL [123] s)).2).1.length ≤ _
  exact Nat.le_trans (mustL_le _ _) (Nat.le_trans (fieldsR_le _ _ _) (mustL_le _ _))
/-- What is to come of rows, where acc was read and l is left. -/
def ElI (R : List (List FV) × RdS) (p : Spec) (acc : List (List FV)) (l : List UInt8) (wrong : Bool) : Prop :=
  if wrong = true then R = (acc, l, true) else ∃ f, l.length < f ∧ R = elN p f l acc
def nextQ (acc : List (List FV)) (l : List UInt8) : RdS := if acc ≠ [] then mustL [44] (l, false) else (l, false)
theorem nextQ_le (acc : List (List FV)) (l : List UInt8) : (nextQ acc l).1.length ≤ l.length := by
  unfold nextQ; split
  · exact mustL_le _ _
  · exact Nat.le_refl _
section
variable {R : List (List FV) × RdS} {p : Spec} {acc : List (List FV)} {l : List UInt8}
theorem ElI.wrong (h : ElI R p acc l true) : R = (acc, l, true) := by unfold ElI at h; rwa [if_pos rfl] at h
theorem ElI.right (h : ElI R p acc l false) : ∃ f, l.length < f + 1 ∧ R = elN p (f + 1) l acc := by
  unfold ElI at h
  rw [if_neg (by simp)] at h
  obtain ⟨f, h1, h2⟩ := h
  exact ⟨f - 1, by omega, by rw [h2]; congr 1; omega⟩
theorem ElI.of_right {f : Nat} (h : l.length < f) (h2 : R = elN p f l acc) : ElI R p acc l false := by unfold ElI; rw [if_neg (by simp)]; exact ⟨f, h, h2⟩
theorem ElI.of_wrong (h2 : R = (acc, l, true)) : ElI R p acc l true := by unfold ElI; rw [if_pos rfl]; exact h2
theorem ElI.close (h : ElI R p acc l false) (hq : [93] <+: l) : R = (acc, l.drop 1, false) := by
  obtain ⟨f, _, h2⟩ := h.right
  rw [h2, elN.eq_def]; simp only; rw [if_pos hq]
theorem ElI.step (h : ElI R p acc l false) (hq : ¬ [93] <+: l) : ElI R p (acc ++ [(objR p (nextQ acc l)).1]) (objR p (nextQ acc l)).2.1 (objR p (nextQ acc l)).2.2 := by
  obtain ⟨f, hf, h2⟩ := h.right
  rw [elN.eq_def] at h2
  simp only at h2
  rw [if_neg hq] at h2
  have h3 : R = if (objR p (nextQ acc l)).2.2 = true then (acc ++ [(objR p (nextQ acc l)).1], (objR p (nextQ acc l)).2.1, true) else elN p f (objR p (nextQ acc l)).2.1 (acc ++ [(objR p (nextQ acc l)).1]) := h2
  have hn := nextQ_le acc l
  cases hx : (objR p (nextQ acc l)).2.2
  · rw [if_neg (by rw [hx]; simp)] at h3
    have := objR_lt p (nextQ acc l) hx
    exact .of_right (f := f) (by omega) h3
  · rw [if_pos hx] at h3
    exact .of_wrong h3
end
theorem elI_start (p : Spec) (name : ByteArray) (s : RdS) : ElI (elR p name s) p [] (mustL (44 :: (quoteL name.data.toList ++ [58, 91])) s).1 (mustL (44 :: (quoteL name.data.toList ++ [58, 91])) s).2 := by
  unfold elR
  cases h : (mustL (44 :: (quoteL name.data.toList ++ [58, 91])) s).2
  · simp only [h]; rw [if_neg (by simp)]
    exact .of_right (Nat.lt_succ_self _) rfl
  · simp only [h]; rw [if_pos trivial]
    exact .of_wrong (by rw [← h])
theorem name_arr (l : List UInt8) : (((⟨#[44]⟩ : ByteArray) ++ bstr l) ++ (⟨#[58, 91]⟩ : ByteArray)).data.toList = 44 :: (l ++ [58, 91]) := by simp [bstr]
theorem objJ_row (s : RdS) : (objR specJ s).1.map FV.val = rowJ (toJ (objR specJ s).1) := rfl
theorem objN_row (s : RdS) : (objR specN s).1.map FV.val = rowN (toN (objR specN s).1) := rfl
theorem objL_row (s : RdS) : (objR specL s).1.map FV.val = rowL (toL (objR specL s).1) := rfl
theorem Rt.two {w W w6 : World} {g : Nat} (h : Rt w g W) (k : R2 W g W.heap.size w6) : Rt w g w6 :=
  h.trans ⟨k.os, k.tape, k.output, k.size, fun b hb hne => k.block b hb (fun h0 => hne (by rw [h0])) (by omega)⟩
def RwJ (w : World) (base : Nat) (v : Value) (l : List JobD) : Prop := w.ownsRow base 49 5 v l.length (l.flatMap rowJ)
def RwN (w : World) (base : Nat) (v : Value) (l : List NodeD) : Prop := w.ownsRow base 53 3 v l.length (l.flatMap rowN)
def RwL (w : World) (base : Nat) (v : Value) (l : List LeaseD) : Prop := w.ownsRow base 57 3 v l.length (l.flatMap rowL)
end Go.Proofs.YtdicoepjkngikaaDoor

/-
 Contracts of package json: rows read: JobD. Printed by wip/gen_jsonv.py.
-/
set_option linter.unusedVariables false
set_option linter.unusedSimpArgs false
namespace Go.Proofs.YtdicoepjkngikaaDoor
open Go.RowKit
theorem infoJV : (Tryd.prog.info? 49).map (fun i => (i.zero, i.size, i.bytes)) = some (some (.agg #[.string ByteArray.empty, .int .i64 0, .int .i64 0, .int .i64 0, .string ByteArray.empty]), 5, 56) := by kernel_rfl
theorem sizeJV : (Tryd.prog.info? 49).map (·.size) = some 5 := by kernel_rfl
section
variable {w : World} {ops : Array Oper} {rest : List Oper} {o : Oper} {a : Act} {Q : Exit → Act → World → Prop}
theorem wpList_append_JV (hgd : o.guard = none) (s x : Operand)
    (ho : o.op = .call { callee := .builtin .append, args := #[s, x], argTypes := #[22, 22] })
    (base : Nat) (v : Value) (acc : List JobD) (hs : a.eval s = v) (hown : RwJ w base v acc) (g : Nat) (j : JobD) (hx : a.eval x = .slice (some ⟨g, 0, none⟩) 1 1)
    (hb : Blk w g 49 (rowJ j).toArray) (hlen : acc.length + 1 ≤ 1099511627776) (hbase : base ≤ w.heap.size)
    (h : ∀ v' w', RwJ w' base v' (acc ++ [j]) → Gr 49 base w w' → wpList Tryd.prog ops Q rest (a.put o.dst v') w') : wpList Tryd.prog ops Q (o :: rest) a w := by
  obtain ⟨i0, hi, hz0, hz1, hz2⟩ := info_parts infoJV
  refine wpList_append_own w hgd s x 22 ho base 49 i0 _ 5 56 Tryd.underlying22 hi hz0 hz1 hz2 rfl (by decide) v acc.length (acc.flatMap rowJ) hs hown ⟨g, 0, none⟩ 1 1 (rowJ j) hx rfl ?_ ?_ ?_ ?_ hbase ?_
  · exact World.news_of_block hb
  · simp [rowJ, Value.oneCell']
  · simp only [maxLen]; omega
  · omega
  · intro v' w' hown' hg _
    refine h v' w' ?_ ⟨(Below.refl base w).grown hg hbase (fun k hk => (World.ownsRow.lt hown k hk).1), fun k o hk _ ho => (hg.block k (Array.getElem?_eq_some_iff.1 hk).1 (fun h0 => ?_)).trans hk⟩
    · unfold RwJ
      rw [List.flatMap_append, List.length_append]
      simpa using hown'
    · rcases hown.2 with ⟨rfl, _⟩ | ⟨g, cap, cur, rfl, _, hg', _⟩
      · cases h0
      · simp only [Value.ownBlock, Option.some.injEq] at h0
        subst h0
        rw [hk] at hg'; injection hg' with hg'
        exact ho _ _ hg'
end
theorem RwJ.rt {w w' : World} {base g : Nat} {v : Value} {l : List JobD} (h : RwJ w base v l) (hR : Rt w g w') (hg : g < base) : RwJ w' base v l :=
  World.ownsRow.kept (row := some g) h hR (.inr (fun h0 => by have := (World.ownsRow.lt h g h0).1; omega))
theorem RwJ.two {w W w5 w6 : World} {g : Nat} {v : Value} {l : List JobD} (h : RwJ W w.heap.size v l) (hg : g < w.heap.size) (hR : Rt W g w5) (hk : R2 w5 g W.heap.size w6) : RwJ w6 w.heap.size v l := by
  have h5 := h.rt hR hg
  refine ⟨h5.1, ?_⟩
  rcases h.2 with h0 | ⟨g', cap, cur, rfl, hb, hg', rest⟩
  · exact .inl h0
  · have hlt : g' < W.heap.size := (Array.getElem?_eq_some_iff.1 hg').1
    have hs := hR.size
    exact .inr ⟨g', cap, cur, rfl, hb, (hk.block g' (by omega) (by omega) (by omega)).trans ((hR.block g' hlt (fun h0 => by injection h0; omega)).trans hg'), rest⟩
theorem fldsJ_p (X : Nat) (x : JobD) : ∀ k (h : k < (fldsJ ⟨X, 0, none⟩ x).length), (fldsJ ⟨X, 0, none⟩ x)[k].p = ⟨X, k, none⟩ := by
  intro k h
  match k, h with
  | 0, _ => rfl
  | 1, _ => rfl
  | 2, _ => rfl
  | 3, _ => rfl
  | 4, _ => rfl
  | k + 5, h => exact absurd h (by simp [fldsJ])
theorem fldsJ_n (X : Nat) (x : JobD) : ∀ f ∈ fldsJ ⟨X, 0, none⟩ x, f.name.size ≤ 16 := by
  intro f hf
  simp only [fldsJ, List.mem_cons, List.not_mem_nil, or_false] at hf
  rcases hf with rfl | rfl | rfl | rfl | rfl <;> (dsimp only; decide)
theorem fldsJ_s (X : Nat) (x : JobD) : specF (fldsJ ⟨X, 0, none⟩ x) = specJ := rfl
set_option maxHeartbeats 8000000 in
set_option maxRecDepth 100000 in
theorem elemsJ_any (B g : Nat) (s : RdS) (hl : s.1.length ≤ 60000) (w : World) (hb : RdB w g s) (hBw : B ≤ w.heap.size) (hBg : B ≤ g) (hJ : LibJ B w) :
    Calls Tryd.prog 15 #[.pointer (some ⟨g, 0, none⟩), .string nJobs, .func (.func 16) #[] #[]] w fun e w' => ∃ v, e = .returned v ∧ RwJ w' w.heap.size v ((elR specJ nJobs s).1.map toJ) ∧ RdB w' g (elR specJ nJobs s).2 ∧ Rt w g w' := by
  have hgw : g < w.heap.size := Blk.lt hb
  have hI := elI_start specJ nJobs s
  have hle : (mustL (44 :: (quoteL nJobs.data.toList ++ [58, 91])) s).1.length ≤ 60000 := Nat.le_trans (mustL_le _ _) hl
  have hns : nJobs.size ≤ 16 := by decide
  generalize elR specJ nJobs s = R at *
  generalize nJobs = nm at *
  have HNC := Lib.hid (name_arr (quoteL nm.data.toList))
  have hqs := quoteL_len nm.data.toList
  rw [bl_len] at hqs
  have HI := Lib.hid hI
  have hnq : 6 * nm.size + 2 ≤ 140737488355328 := by omega
  clear hI
  go_enter Tryd.func15, Tryd.ntmps15
  go_wp2_with fail
  refine (Quote_any nm w hnq).mono ?_
  rintro e w1 ⟨rfl, hB1⟩
  have hb1 : RdB w1 g s := Blk.below hb hB1 hgw
  have hR1 := Rt.new (g := g) hB1
  have hSz : (bstr (quoteL nm.data.toList)).size ≤ 98 := by rw [bstr_size]; omega
  clear hqs hB1 hns
  generalize bstr (quoteL nm.data.toList) = SQ at *
  have hcat1 : ¬ (9223372036854775807 : Int) < 1 + (SQ.size : Int) := by omega
  have hcat2 : ¬ 9223372036854775807 < 1 + SQ.size := by omega
  have hcat3 : ¬ (9223372036854775807 : Int) < 1 + (SQ.size : Int) + 2 := by omega
  have hcat4 : ¬ 9223372036854775807 < 1 + SQ.size + 2 := by omega
  go_wp2_with fail
  refine (must_any g s _ w1 hb1).mono ?_
  rintro e w2 ⟨rfl, hb2, hR2⟩
  rw [HNC.out] at hb2
  have hR2 := hR1.trans hR2
  generalize mustL (44 :: (quoteL nm.data.toList ++ [58, 91])) s = s1 at *
  obtain ⟨l1, b1⟩ := s1
  have hle : l1.length ≤ 60000 := hle
  clear hcat1 hcat2 hcat3 hcat4 HNC hSz hb1 hR1
  go_wp2_with fail
  have hsz2 := hR2.size
  go_loopg [7] 60002 (fun gk v wx => ∃ (acc : List (List FV)) (l : List UInt8) (b : Bool), RwJ wx w.heap.size v (acc.map toJ) ∧ RdB wx g (l, b) ∧ Rt w g wx ∧ Hid (ElI R specJ acc l b) ∧ l.length ≤ 60000 ∧ (b = false → acc.length + l.length ≤ 60000) ∧ l.length + (!b).toNat < gk)
  case atStart => exact ⟨[], l1, b1, World.ownsRow_nil _ _ _ _, hb2, hR2, HI, hle, fun _ => by simpa using hle, by cases b1 <;> simp <;> omega⟩
  case round =>
    obtain ⟨acc, l, b, hown, hbR, hRt, H, hll, hal, hgk⟩ := hrel
    have hbR' : Blk wr g 44 #[.string (bstr l), .bool b] := hbR
    have c1 : wr.cell? ⟨g, 1, none⟩ = some (.bool b) := hbR'.cell 1
    clear hb2 hR2 HI
    cases b
    · have hal := hal rfl
      have HI1 := Lib.hid (is_any g (l, false) ⟨#[93]⟩ wr hbR)
      have HH := Lib.hid H.out
      clear H
      by_cases hq : [93] <+: l
      · have hi := isL_pos hq
        have HT := Lib.hid (HH.out.close hq)
        have HX : Hid (Calls Tryd.prog 38 #[.pointer (some ⟨g, 0, none⟩), .string ⟨#[93]⟩] wr fun e w' => e = .returned (.bool true) ∧ RdB w' g (l.drop 1, false) ∧ Rt wr g w') := by
          have h := HI1.out
          rw [show (⟨#[93]⟩ : ByteArray).data.toList = [93] from rfl, hi] at h
          exact h
        clear hi HI1 hq
        go_wp2_with fail
        refine HX.out.mono ?_
        rintro e w3 ⟨rfl, hb3, hR3⟩
        have hown3 := hown.rt hR3 hgw
        go_wp2_with fail
        go_ret
        rw [HT.out]
        exact ⟨_, rfl, hown3, hb3, hRt.trans hR3⟩
      · have hi := isL_neg hq
        have HX : Hid (Calls Tryd.prog 38 #[.pointer (some ⟨g, 0, none⟩), .string ⟨#[93]⟩] wr fun e w' => e = .returned (.bool false) ∧ RdB w' g (l, false) ∧ Rt wr g w') := by
          have h := HI1.out
          rw [show (⟨#[93]⟩ : ByteArray).data.toList = [93] from rfl, hi] at h
          exact h
        have HST := Lib.hid (HH.out.step hq)
        have hnx := nextQ_le acc l
        have HNX := Lib.hid (show nextQ acc l = if acc ≠ [] then mustL [44] (l, false) else (l, false) from rfl)
        clear hi HI1 hq HH
        obtain ⟨A, c, rfl⟩ : ∃ A c, u7 = .slice A (acc.map toJ).length c := by
          rcases hown.2 with ⟨h, h0⟩ | ⟨g, cap, cur, h, _⟩
          · exact ⟨_, _, by rw [h, h0]⟩
          · exact ⟨_, _, h⟩
        have hml : (acc.map toJ).length = acc.length := by simp
        rw [hml] at hown
        go_wp2_with fail
        refine HX.out.mono ?_
        rintro e w3 ⟨rfl, hb3, hR3⟩
        have hown3 := hown.rt hR3 hgw
        have hR3 := hRt.trans hR3
        clear hown hbR hbR' c1 hRt HX
        rcases Nat.eq_zero_or_pos acc.length with h0 | h0
        · have hd : decide (0 < acc.length) = false := by simp [h0]
          have hq0 : nextQ acc l = (l, false) := by rw [HNX.out, if_neg (by simp [List.length_eq_zero_iff.1 h0])]
          rw [hq0] at HST hnx
          clear h0 HNX hq0
          obtain ⟨W, hW⟩ : ∃ W, W = w3 := ⟨_, rfl⟩
          subst hW
          obtain ⟨q0, hq0⟩ : ∃ q0, q0 = ((l, false) : RdS) := ⟨_, rfl⟩
          have hbW := hb3
          have hownW := hown3
          have hRW := hR3
          rw [← hq0] at hbW HST hnx
          clear hb3 hown3 hR3 hq0
          go_wp2_with fail
          refine (jobFields_any ⟨W.heap.size, 0, none⟩ ⟨ByteArray.empty, 0, 0, 0, ByteArray.empty⟩ (W.alloc (.cells #[.string ByteArray.empty, .int .i64 0, .int .i64 0, .int .i64 0, .string ByteArray.empty] 49))).mono ?_
          rintro e w5 ⟨gF, cs, rfl, hF, hcs, hgF, hB5⟩
          have hX5 : Blk w5 W.heap.size 49 #[.string ByteArray.empty, .int .i64 0, .int .i64 0, .int .i64 0, .string ByteArray.empty] := (Blk.new W _ _).below hB5 (by simp)
          have hRa : Rt W g w5 := (Rt.new ((Below.refl _ _).alloc (Nat.le_refl _) _)).trans (Rt.new hB5)
          have hgW : g < W.heap.size := Blk.lt hbW
          have hb5 : RdB w5 g q0 := Blk.below (Blk.alloc hbW _) hB5 (by simp; omega)
          have hR5 := hRW.trans hRa
          have hown5 := hownW.rt hRa hgw
          have hBW : B ≤ W.heap.size := Nat.le_trans hBw hRW.size
          have hJ5 : LibJ B w5 := hJ.below (hR5.below hBg hBw)
          have hB5w : B ≤ w5.heap.size := Nat.le_trans hBw hR5.size
          have HO := Lib.hid (robject_any B g W.heap.size gF 5 49 (by decide) (by decide) (fldsJ ⟨W.heap.size, 0, none⟩ ⟨ByteArray.empty, 0, 0, 0, ByteArray.empty⟩) cs q0 w5 hb5 hX5 hF hcs (fldsJ_p _ _) (show 5 ≤ 5 by decide) (fldsJ_n _ _) (by omega) hBg hBW hB5w hJ5)
          rw [fldsJ_s] at HO
          have HO : Hid (Calls Tryd.prog 41 #[.pointer (some ⟨g, 0, none⟩), .slice (some ⟨gF, 0, none⟩) 5 5] w5 fun e w' => e = .returned (.tuple #[]) ∧ Blk w' W.heap.size 49 (rowJ (toJ (objR specJ q0).1)).toArray ∧ RdB w' g (objR specJ q0).2 ∧ R2 w5 g W.heap.size w') := HO
          have hol := objR_le specJ q0
          have hot := objR_lt specJ q0
          generalize objR specJ q0 = y at *
          obtain ⟨y1, y2, y3⟩ := y
          clear hX5 hF hcs hb5 hJ5 hbW
          go_wp2_with fail
          refine HO.out.mono ?_
          rintro e w6 ⟨rfl, hX6, hb6, hR6⟩
          have hown6 : RwJ w6 w.heap.size (.slice A acc.length c) (acc.map toJ) := hownW.two hgw hRa hR6
          have hRt6 : Rt w g w6 := hRW.two (hRa.r2 W.heap.size |>.trans hR6)
          have hsz6 := hRt6.size
          obtain ⟨x, hx⟩ : ∃ x, x = toJ y1 := ⟨_, rfl⟩
          rw [← hx] at hX6
          have HXE := Lib.hid hx
          clear hx
          have hX6 : Blk w6 W.heap.size 49 #[.string x.name, .int .i64 x.prio, .int .i64 x.need, .int .i64 x.tries, .string x.tag] := hX6
          have hat : At w6 ⟨W.heap.size, 0, none⟩ [.string x.name, .int .i64 x.prio, .int .i64 x.need, .int .i64 x.tries, .string x.tag] := At.blk hX6
          clear HO hR6 hRa hR5 hown5 hownW hRW
          have bE := Blk.new w6 49 #[.string x.name, .int .i64 x.prio, .int .i64 x.need, .int .i64 x.tries, .string x.tag]
          have hownE : RwJ (w6.alloc (.cells #[.string x.name, .int .i64 x.prio, .int .i64 x.need, .int .i64 x.tries, .string x.tag] 49)) w.heap.size _ (acc.map toJ) := World.ownsRow.alloc hown6 _
          have hlen : (acc.map toJ).length + 1 ≤ 1099511627776 := by rw [hml]; omega
          have hszE : w.heap.size ≤ (w6.alloc (.cells #[.string x.name, .int .i64 x.prio, .int .i64 x.need, .int .i64 x.tries, .string x.tag] 49)).heap.size := by simp; omega
          go_wp2_with (first
            | (refine wpList_load_at rfl _ _ rfl ⟨W.heap.size, 0, none⟩ rfl [.string x.name, .int .i64 x.prio, .int .i64 x.need, .int .i64 x.tries, .string x.tag] _ hat Tryd.underlying49 rfl sizeJV ?_)
            | (at_builtin; go_loud (refine wpList_append_JV rfl _ _ rfl w.heap.size _ (acc.map toJ) rfl hownE w6.heap.size x rfl bE hlen hszE ?_)))
          intro v7 w7 hown7 hG7
          have hb7 : RdB w7 g (y2, y3) := hG7.blk (Blk.alloc hb6 _) (by decide)
          have hR7 : Rt w g w7 := (hRt6.trans (Rt.new ((Below.refl _ _).alloc (Nat.le_refl _) _))).gr hG7.1
          go_wp2_with fail
          go_roundg (gk - 1)
          case rel => exact ⟨acc ++ [y1], y2, y3, by rw [List.map_append, List.map_cons, List.map_nil, ← HXE.out]; exact hown7, hb7, hR7, HST, by simp at *; omega, fun h => by have := hot h; simp at *; omega, by cases y3 <;> simp at * <;> omega⟩
          case measure => simp at hgk; omega
        · have hd : decide (0 < acc.length) = true := by simp [h0]
          have hq0 : nextQ acc l = mustL [44] (l, false) := by rw [HNX.out, if_pos (fun h => by rw [h] at h0; simp at h0)]
          rw [hq0] at HST hnx
          clear h0 HNX hq0
          have HK := Lib.hid (must_any g (l, false) ⟨#[44]⟩ w3 hb3)
          have HK : Hid (Calls Tryd.prog 13 #[.pointer (some ⟨g, 0, none⟩), .string ⟨#[44]⟩] w3 fun e w' => e = .returned (.tuple #[]) ∧ RdB w' g (mustL [44] (l, false)) ∧ Rt w3 g w') := HK
          generalize mustL [44] (l, false) = q0 at *
          go_wp2_with fail
          refine HK.out.mono ?_
          rintro e W ⟨rfl, hbW, hRk⟩
          have hownW := hown3.rt hRk hgw
          have hRW := hR3.trans hRk
          clear HK hb3 hown3 hR3 hRk
          go_wp2_with fail
          refine (jobFields_any ⟨W.heap.size, 0, none⟩ ⟨ByteArray.empty, 0, 0, 0, ByteArray.empty⟩ (W.alloc (.cells #[.string ByteArray.empty, .int .i64 0, .int .i64 0, .int .i64 0, .string ByteArray.empty] 49))).mono ?_
          rintro e w5 ⟨gF, cs, rfl, hF, hcs, hgF, hB5⟩
          have hX5 : Blk w5 W.heap.size 49 #[.string ByteArray.empty, .int .i64 0, .int .i64 0, .int .i64 0, .string ByteArray.empty] := (Blk.new W _ _).below hB5 (by simp)
          have hRa : Rt W g w5 := (Rt.new ((Below.refl _ _).alloc (Nat.le_refl _) _)).trans (Rt.new hB5)
          have hgW : g < W.heap.size := Blk.lt hbW
          have hb5 : RdB w5 g q0 := Blk.below (Blk.alloc hbW _) hB5 (by simp; omega)
          have hR5 := hRW.trans hRa
          have hown5 := hownW.rt hRa hgw
          have hBW : B ≤ W.heap.size := Nat.le_trans hBw hRW.size
          have hJ5 : LibJ B w5 := hJ.below (hR5.below hBg hBw)
          have hB5w : B ≤ w5.heap.size := Nat.le_trans hBw hR5.size
          have HO := Lib.hid (robject_any B g W.heap.size gF 5 49 (by decide) (by decide) (fldsJ ⟨W.heap.size, 0, none⟩ ⟨ByteArray.empty, 0, 0, 0, ByteArray.empty⟩) cs q0 w5 hb5 hX5 hF hcs (fldsJ_p _ _) (show 5 ≤ 5 by decide) (fldsJ_n _ _) (by omega) hBg hBW hB5w hJ5)
          rw [fldsJ_s] at HO
          have HO : Hid (Calls Tryd.prog 41 #[.pointer (some ⟨g, 0, none⟩), .slice (some ⟨gF, 0, none⟩) 5 5] w5 fun e w' => e = .returned (.tuple #[]) ∧ Blk w' W.heap.size 49 (rowJ (toJ (objR specJ q0).1)).toArray ∧ RdB w' g (objR specJ q0).2 ∧ R2 w5 g W.heap.size w') := HO
          have hol := objR_le specJ q0
          have hot := objR_lt specJ q0
          generalize objR specJ q0 = y at *
          obtain ⟨y1, y2, y3⟩ := y
          clear hX5 hF hcs hb5 hJ5 hbW
          go_wp2_with fail
          refine HO.out.mono ?_
          rintro e w6 ⟨rfl, hX6, hb6, hR6⟩
          have hown6 : RwJ w6 w.heap.size (.slice A acc.length c) (acc.map toJ) := hownW.two hgw hRa hR6
          have hRt6 : Rt w g w6 := hRW.two (hRa.r2 W.heap.size |>.trans hR6)
          have hsz6 := hRt6.size
          obtain ⟨x, hx⟩ : ∃ x, x = toJ y1 := ⟨_, rfl⟩
          rw [← hx] at hX6
          have HXE := Lib.hid hx
          clear hx
          have hX6 : Blk w6 W.heap.size 49 #[.string x.name, .int .i64 x.prio, .int .i64 x.need, .int .i64 x.tries, .string x.tag] := hX6
          have hat : At w6 ⟨W.heap.size, 0, none⟩ [.string x.name, .int .i64 x.prio, .int .i64 x.need, .int .i64 x.tries, .string x.tag] := At.blk hX6
          clear HO hR6 hRa hR5 hown5 hownW hRW
          have bE := Blk.new w6 49 #[.string x.name, .int .i64 x.prio, .int .i64 x.need, .int .i64 x.tries, .string x.tag]
          have hownE : RwJ (w6.alloc (.cells #[.string x.name, .int .i64 x.prio, .int .i64 x.need, .int .i64 x.tries, .string x.tag] 49)) w.heap.size _ (acc.map toJ) := World.ownsRow.alloc hown6 _
          have hlen : (acc.map toJ).length + 1 ≤ 1099511627776 := by rw [hml]; omega
          have hszE : w.heap.size ≤ (w6.alloc (.cells #[.string x.name, .int .i64 x.prio, .int .i64 x.need, .int .i64 x.tries, .string x.tag] 49)).heap.size := by simp; omega
          go_wp2_with (first
            | (refine wpList_load_at rfl _ _ rfl ⟨W.heap.size, 0, none⟩ rfl [.string x.name, .int .i64 x.prio, .int .i64 x.need, .int .i64 x.tries, .string x.tag] _ hat Tryd.underlying49 rfl sizeJV ?_)
            | (at_builtin; go_loud (refine wpList_append_JV rfl _ _ rfl w.heap.size _ (acc.map toJ) rfl hownE w6.heap.size x rfl bE hlen hszE ?_)))
          intro v7 w7 hown7 hG7
          have hb7 : RdB w7 g (y2, y3) := hG7.blk (Blk.alloc hb6 _) (by decide)
          have hR7 : Rt w g w7 := (hRt6.trans (Rt.new ((Below.refl _ _).alloc (Nat.le_refl _) _))).gr hG7.1
          go_wp2_with fail
          go_roundg (gk - 1)
          case rel => exact ⟨acc ++ [y1], y2, y3, by rw [List.map_append, List.map_cons, List.map_nil, ← HXE.out]; exact hown7, hb7, hR7, HST, by simp at *; omega, fun h => by have := hot h; simp at *; omega, by cases y3 <;> simp at * <;> omega⟩
          case measure => simp at hgk; omega
    · have HT := Lib.hid H.out.wrong
      clear H
      go_wp2_with fail
      go_ret
      rw [HT.out]
      exact ⟨_, rfl, hown, hbR, hRt⟩
end Go.Proofs.YtdicoepjkngikaaDoor

/-
 Contracts of package json: rows read: NodeD. Printed by wip/gen_jsonv.py.
-/
set_option linter.unusedVariables false
set_option linter.unusedSimpArgs false
namespace Go.Proofs.YtdicoepjkngikaaDoor
open Go.RowKit
theorem infoNV : (Tryd.prog.info? 53).map (fun i => (i.zero, i.size, i.bytes)) = some (some (.agg #[.string ByteArray.empty, .int .i64 0, .string ByteArray.empty]), 3, 40) := by kernel_rfl
theorem sizeNV : (Tryd.prog.info? 53).map (·.size) = some 3 := by kernel_rfl
section
variable {w : World} {ops : Array Oper} {rest : List Oper} {o : Oper} {a : Act} {Q : Exit → Act → World → Prop}
theorem wpList_append_NV (hgd : o.guard = none) (s x : Operand)
    (ho : o.op = .call { callee := .builtin .append, args := #[s, x], argTypes := #[23, 23] })
    (base : Nat) (v : Value) (acc : List NodeD) (hs : a.eval s = v) (hown : RwN w base v acc) (g : Nat) (j : NodeD) (hx : a.eval x = .slice (some ⟨g, 0, none⟩) 1 1)
    (hb : Blk w g 53 (rowN j).toArray) (hlen : acc.length + 1 ≤ 1099511627776) (hbase : base ≤ w.heap.size)
    (h : ∀ v' w', RwN w' base v' (acc ++ [j]) → Gr 53 base w w' → wpList Tryd.prog ops Q rest (a.put o.dst v') w') : wpList Tryd.prog ops Q (o :: rest) a w := by
  obtain ⟨i0, hi, hz0, hz1, hz2⟩ := info_parts infoNV
  refine wpList_append_own w hgd s x 23 ho base 53 i0 _ 3 40 Tryd.underlying23 hi hz0 hz1 hz2 rfl (by decide) v acc.length (acc.flatMap rowN) hs hown ⟨g, 0, none⟩ 1 1 (rowN j) hx rfl ?_ ?_ ?_ ?_ hbase ?_
  · exact World.news_of_block hb
  · simp [rowN, Value.oneCell']
  · simp only [maxLen]; omega
  · omega
  · intro v' w' hown' hg _
    refine h v' w' ?_ ⟨(Below.refl base w).grown hg hbase (fun k hk => (World.ownsRow.lt hown k hk).1), fun k o hk _ ho => (hg.block k (Array.getElem?_eq_some_iff.1 hk).1 (fun h0 => ?_)).trans hk⟩
    · unfold RwN
      rw [List.flatMap_append, List.length_append]
      simpa using hown'
    · rcases hown.2 with ⟨rfl, _⟩ | ⟨g, cap, cur, rfl, _, hg', _⟩
      · cases h0
      · simp only [Value.ownBlock, Option.some.injEq] at h0
        subst h0
        rw [hk] at hg'; injection hg' with hg'
        exact ho _ _ hg'
end
theorem RwN.rt {w w' : World} {base g : Nat} {v : Value} {l : List NodeD} (h : RwN w base v l) (hR : Rt w g w') (hg : g < base) : RwN w' base v l :=
  World.ownsRow.kept (row := some g) h hR (.inr (fun h0 => by have := (World.ownsRow.lt h g h0).1; omega))
theorem RwN.two {w W w5 w6 : World} {g : Nat} {v : Value} {l : List NodeD} (h : RwN W w.heap.size v l) (hg : g < w.heap.size) (hR : Rt W g w5) (hk : R2 w5 g W.heap.size w6) : RwN w6 w.heap.size v l := by
  have h5 := h.rt hR hg
  refine ⟨h5.1, ?_⟩
  rcases h.2 with h0 | ⟨g', cap, cur, rfl, hb, hg', rest⟩
  · exact .inl h0
  · have hlt : g' < W.heap.size := (Array.getElem?_eq_some_iff.1 hg').1
    have hs := hR.size
    exact .inr ⟨g', cap, cur, rfl, hb, (hk.block g' (by omega) (by omega) (by omega)).trans ((hR.block g' hlt (fun h0 => by injection h0; omega)).trans hg'), rest⟩
theorem fldsN_p (X : Nat) (x : NodeD) : ∀ k (h : k < (fldsN ⟨X, 0, none⟩ x).length), (fldsN ⟨X, 0, none⟩ x)[k].p = ⟨X, k, none⟩ := by
  intro k h
  match k, h with
  | 0, _ => rfl
  | 1, _ => rfl
  | 2, _ => rfl
  | k + 3, h => exact absurd h (by simp [fldsN])
theorem fldsN_n (X : Nat) (x : NodeD) : ∀ f ∈ fldsN ⟨X, 0, none⟩ x, f.name.size ≤ 16 := by
  intro f hf
  simp only [fldsN, List.mem_cons, List.not_mem_nil, or_false] at hf
  rcases hf with rfl | rfl | rfl <;> (dsimp only; decide)
theorem fldsN_s (X : Nat) (x : NodeD) : specF (fldsN ⟨X, 0, none⟩ x) = specN := rfl
set_option maxHeartbeats 8000000 in
set_option maxRecDepth 100000 in
theorem elemsN_any (B g : Nat) (s : RdS) (hl : s.1.length ≤ 60000) (w : World) (hb : RdB w g s) (hBw : B ≤ w.heap.size) (hBg : B ≤ g) (hJ : LibJ B w) :
    Calls Tryd.prog 17 #[.pointer (some ⟨g, 0, none⟩), .string nNodes, .func (.func 18) #[] #[]] w fun e w' => ∃ v, e = .returned v ∧ RwN w' w.heap.size v ((elR specN nNodes s).1.map toN) ∧ RdB w' g (elR specN nNodes s).2 ∧ Rt w g w' := by
  have hgw : g < w.heap.size := Blk.lt hb
  have hI := elI_start specN nNodes s
  have hle : (mustL (44 :: (quoteL nNodes.data.toList ++ [58, 91])) s).1.length ≤ 60000 := Nat.le_trans (mustL_le _ _) hl
  have hns : nNodes.size ≤ 16 := by decide
  generalize elR specN nNodes s = R at *
  generalize nNodes = nm at *
  have HNC := Lib.hid (name_arr (quoteL nm.data.toList))
  have hqs := quoteL_len nm.data.toList
  rw [bl_len] at hqs
  have HI := Lib.hid hI
  have hnq : 6 * nm.size + 2 ≤ 140737488355328 := by omega
  clear hI
  go_enter Tryd.func17, Tryd.ntmps17
  go_wp2_with fail
  refine (Quote_any nm w hnq).mono ?_
  rintro e w1 ⟨rfl, hB1⟩
  have hb1 : RdB w1 g s := Blk.below hb hB1 hgw
  have hR1 := Rt.new (g := g) hB1
  have hSz : (bstr (quoteL nm.data.toList)).size ≤ 98 := by rw [bstr_size]; omega
  clear hqs hB1 hns
  generalize bstr (quoteL nm.data.toList) = SQ at *
  have hcat1 : ¬ (9223372036854775807 : Int) < 1 + (SQ.size : Int) := by omega
  have hcat2 : ¬ 9223372036854775807 < 1 + SQ.size := by omega
  have hcat3 : ¬ (9223372036854775807 : Int) < 1 + (SQ.size : Int) + 2 := by omega
  have hcat4 : ¬ 9223372036854775807 < 1 + SQ.size + 2 := by omega
  go_wp2_with fail
  refine (must_any g s _ w1 hb1).mono ?_
  rintro e w2 ⟨rfl, hb2, hR2⟩
  rw [HNC.out] at hb2
  have hR2 := hR1.trans hR2
  generalize mustL (44 :: (quoteL nm.data.toList ++ [58, 91])) s = s1 at *
  obtain ⟨l1, b1⟩ := s1
  have hle : l1.length ≤ 60000 := hle
  clear hcat1 hcat2 hcat3 hcat4 HNC hSz hb1 hR1
  go_wp2_with fail
  have hsz2 := hR2.size
  go_loopg [7] 60002 (fun gk v wx => ∃ (acc : List (List FV)) (l : List UInt8) (b : Bool), RwN wx w.heap.size v (acc.map toN) ∧ RdB wx g (l, b) ∧ Rt w g wx ∧ Hid (ElI R specN acc l b) ∧ l.length ≤ 60000 ∧ (b = false → acc.length + l.length ≤ 60000) ∧ l.length + (!b).toNat < gk)
  case atStart => exact ⟨[], l1, b1, World.ownsRow_nil _ _ _ _, hb2, hR2, HI, hle, fun _ => by simpa using hle, by cases b1 <;> simp <;> omega⟩
  case round =>
    obtain ⟨acc, l, b, hown, hbR, hRt, H, hll, hal, hgk⟩ := hrel
    have hbR' : Blk wr g 44 #[.string (bstr l), .bool b] := hbR
    have c1 : wr.cell? ⟨g, 1, none⟩ = some (.bool b) := hbR'.cell 1
    clear hb2 hR2 HI
    cases b
    · have hal := hal rfl
      have HI1 := Lib.hid (is_any g (l, false) ⟨#[93]⟩ wr hbR)
      have HH := Lib.hid H.out
      clear H
      by_cases hq : [93] <+: l
      · have hi := isL_pos hq
        have HT := Lib.hid (HH.out.close hq)
        have HX : Hid (Calls Tryd.prog 38 #[.pointer (some ⟨g, 0, none⟩), .string ⟨#[93]⟩] wr fun e w' => e = .returned (.bool true) ∧ RdB w' g (l.drop 1, false) ∧ Rt wr g w') := by
          have h := HI1.out
          rw [show (⟨#[93]⟩ : ByteArray).data.toList = [93] from rfl, hi] at h
          exact h
        clear hi HI1 hq
        go_wp2_with fail
        refine HX.out.mono ?_
        rintro e w3 ⟨rfl, hb3, hR3⟩
        have hown3 := hown.rt hR3 hgw
        go_wp2_with fail
        go_ret
        rw [HT.out]
        exact ⟨_, rfl, hown3, hb3, hRt.trans hR3⟩
      · have hi := isL_neg hq
        have HX : Hid (Calls Tryd.prog 38 #[.pointer (some ⟨g, 0, none⟩), .string ⟨#[93]⟩] wr fun e w' => e = .returned (.bool false) ∧ RdB w' g (l, false) ∧ Rt wr g w') := by
          have h := HI1.out
          rw [show (⟨#[93]⟩ : ByteArray).data.toList = [93] from rfl, hi] at h
          exact h
        have HST := Lib.hid (HH.out.step hq)
        have hnx := nextQ_le acc l
        have HNX := Lib.hid (show nextQ acc l = if acc ≠ [] then mustL [44] (l, false) else (l, false) from rfl)
        clear hi HI1 hq HH
        obtain ⟨A, c, rfl⟩ : ∃ A c, u7 = .slice A (acc.map toN).length c := by
          rcases hown.2 with ⟨h, h0⟩ | ⟨g, cap, cur, h, _⟩
          · exact ⟨_, _, by rw [h, h0]⟩
          · exact ⟨_, _, h⟩
        have hml : (acc.map toN).length = acc.length := by simp
        rw [hml] at hown
        go_wp2_with fail
        refine HX.out.mono ?_
        rintro e w3 ⟨rfl, hb3, hR3⟩
        have hown3 := hown.rt hR3 hgw
        have hR3 := hRt.trans hR3
        clear hown hbR hbR' c1 hRt HX
        rcases Nat.eq_zero_or_pos acc.length with h0 | h0
        · have hd : decide (0 < acc.length) = false := by simp [h0]
          have hq0 : nextQ acc l = (l, false) := by rw [HNX.out, if_neg (by simp [List.length_eq_zero_iff.1 h0])]
          rw [hq0] at HST hnx
          clear h0 HNX hq0
          obtain ⟨W, hW⟩ : ∃ W, W = w3 := ⟨_, rfl⟩
          subst hW
          obtain ⟨q0, hq0⟩ : ∃ q0, q0 = ((l, false) : RdS) := ⟨_, rfl⟩
          have hbW := hb3
          have hownW := hown3
          have hRW := hR3
          rw [← hq0] at hbW HST hnx
          clear hb3 hown3 hR3 hq0
          go_wp2_with fail
          refine (nodeFields_any ⟨W.heap.size, 0, none⟩ ⟨ByteArray.empty, 0, ByteArray.empty⟩ (W.alloc (.cells #[.string ByteArray.empty, .int .i64 0, .string ByteArray.empty] 53))).mono ?_
          rintro e w5 ⟨gF, cs, rfl, hF, hcs, hgF, hB5⟩
          have hX5 : Blk w5 W.heap.size 53 #[.string ByteArray.empty, .int .i64 0, .string ByteArray.empty] := (Blk.new W _ _).below hB5 (by simp)
          have hRa : Rt W g w5 := (Rt.new ((Below.refl _ _).alloc (Nat.le_refl _) _)).trans (Rt.new hB5)
          have hgW : g < W.heap.size := Blk.lt hbW
          have hb5 : RdB w5 g q0 := Blk.below (Blk.alloc hbW _) hB5 (by simp; omega)
          have hR5 := hRW.trans hRa
          have hown5 := hownW.rt hRa hgw
          have hBW : B ≤ W.heap.size := Nat.le_trans hBw hRW.size
          have hJ5 : LibJ B w5 := hJ.below (hR5.below hBg hBw)
          have hB5w : B ≤ w5.heap.size := Nat.le_trans hBw hR5.size
          have HO := Lib.hid (robject_any B g W.heap.size gF 3 53 (by decide) (by decide) (fldsN ⟨W.heap.size, 0, none⟩ ⟨ByteArray.empty, 0, ByteArray.empty⟩) cs q0 w5 hb5 hX5 hF hcs (fldsN_p _ _) (show 3 ≤ 5 by decide) (fldsN_n _ _) (by omega) hBg hBW hB5w hJ5)
          rw [fldsN_s] at HO
          have HO : Hid (Calls Tryd.prog 41 #[.pointer (some ⟨g, 0, none⟩), .slice (some ⟨gF, 0, none⟩) 3 3] w5 fun e w' => e = .returned (.tuple #[]) ∧ Blk w' W.heap.size 53 (rowN (toN (objR specN q0).1)).toArray ∧ RdB w' g (objR specN q0).2 ∧ R2 w5 g W.heap.size w') := HO
          have hol := objR_le specN q0
          have hot := objR_lt specN q0
          generalize objR specN q0 = y at *
          obtain ⟨y1, y2, y3⟩ := y
          clear hX5 hF hcs hb5 hJ5 hbW
          go_wp2_with fail
          refine HO.out.mono ?_
          rintro e w6 ⟨rfl, hX6, hb6, hR6⟩
          have hown6 : RwN w6 w.heap.size (.slice A acc.length c) (acc.map toN) := hownW.two hgw hRa hR6
          have hRt6 : Rt w g w6 := hRW.two (hRa.r2 W.heap.size |>.trans hR6)
          have hsz6 := hRt6.size
          obtain ⟨x, hx⟩ : ∃ x, x = toN y1 := ⟨_, rfl⟩
          rw [← hx] at hX6
          have HXE := Lib.hid hx
          clear hx
          have hX6 : Blk w6 W.heap.size 53 #[.string x.name, .int .i64 x.room, .string x.zone] := hX6
          have hat : At w6 ⟨W.heap.size, 0, none⟩ [.string x.name, .int .i64 x.room, .string x.zone] := At.blk hX6
          clear HO hR6 hRa hR5 hown5 hownW hRW
          have bE := Blk.new w6 53 #[.string x.name, .int .i64 x.room, .string x.zone]
          have hownE : RwN (w6.alloc (.cells #[.string x.name, .int .i64 x.room, .string x.zone] 53)) w.heap.size _ (acc.map toN) := World.ownsRow.alloc hown6 _
          have hlen : (acc.map toN).length + 1 ≤ 1099511627776 := by rw [hml]; omega
          have hszE : w.heap.size ≤ (w6.alloc (.cells #[.string x.name, .int .i64 x.room, .string x.zone] 53)).heap.size := by simp; omega
          go_wp2_with (first
            | (refine wpList_load_at rfl _ _ rfl ⟨W.heap.size, 0, none⟩ rfl [.string x.name, .int .i64 x.room, .string x.zone] _ hat Tryd.underlying53 rfl sizeNV ?_)
            | (at_builtin; go_loud (refine wpList_append_NV rfl _ _ rfl w.heap.size _ (acc.map toN) rfl hownE w6.heap.size x rfl bE hlen hszE ?_)))
          intro v7 w7 hown7 hG7
          have hb7 : RdB w7 g (y2, y3) := hG7.blk (Blk.alloc hb6 _) (by decide)
          have hR7 : Rt w g w7 := (hRt6.trans (Rt.new ((Below.refl _ _).alloc (Nat.le_refl _) _))).gr hG7.1
          go_wp2_with fail
          go_roundg (gk - 1)
          case rel => exact ⟨acc ++ [y1], y2, y3, by rw [List.map_append, List.map_cons, List.map_nil, ← HXE.out]; exact hown7, hb7, hR7, HST, by simp at *; omega, fun h => by have := hot h; simp at *; omega, by cases y3 <;> simp at * <;> omega⟩
          case measure => simp at hgk; omega
        · have hd : decide (0 < acc.length) = true := by simp [h0]
          have hq0 : nextQ acc l = mustL [44] (l, false) := by rw [HNX.out, if_pos (fun h => by rw [h] at h0; simp at h0)]
          rw [hq0] at HST hnx
          clear h0 HNX hq0
          have HK := Lib.hid (must_any g (l, false) ⟨#[44]⟩ w3 hb3)
          have HK : Hid (Calls Tryd.prog 13 #[.pointer (some ⟨g, 0, none⟩), .string ⟨#[44]⟩] w3 fun e w' => e = .returned (.tuple #[]) ∧ RdB w' g (mustL [44] (l, false)) ∧ Rt w3 g w') := HK
          generalize mustL [44] (l, false) = q0 at *
          go_wp2_with fail
          refine HK.out.mono ?_
          rintro e W ⟨rfl, hbW, hRk⟩
          have hownW := hown3.rt hRk hgw
          have hRW := hR3.trans hRk
          clear HK hb3 hown3 hR3 hRk
          go_wp2_with fail
          refine (nodeFields_any ⟨W.heap.size, 0, none⟩ ⟨ByteArray.empty, 0, ByteArray.empty⟩ (W.alloc (.cells #[.string ByteArray.empty, .int .i64 0, .string ByteArray.empty] 53))).mono ?_
          rintro e w5 ⟨gF, cs, rfl, hF, hcs, hgF, hB5⟩
          have hX5 : Blk w5 W.heap.size 53 #[.string ByteArray.empty, .int .i64 0, .string ByteArray.empty] := (Blk.new W _ _).below hB5 (by simp)
          have hRa : Rt W g w5 := (Rt.new ((Below.refl _ _).alloc (Nat.le_refl _) _)).trans (Rt.new hB5)
          have hgW : g < W.heap.size := Blk.lt hbW
          have hb5 : RdB w5 g q0 := Blk.below (Blk.alloc hbW _) hB5 (by simp; omega)
          have hR5 := hRW.trans hRa
          have hown5 := hownW.rt hRa hgw
          have hBW : B ≤ W.heap.size := Nat.le_trans hBw hRW.size
          have hJ5 : LibJ B w5 := hJ.below (hR5.below hBg hBw)
          have hB5w : B ≤ w5.heap.size := Nat.le_trans hBw hR5.size
          have HO := Lib.hid (robject_any B g W.heap.size gF 3 53 (by decide) (by decide) (fldsN ⟨W.heap.size, 0, none⟩ ⟨ByteArray.empty, 0, ByteArray.empty⟩) cs q0 w5 hb5 hX5 hF hcs (fldsN_p _ _) (show 3 ≤ 5 by decide) (fldsN_n _ _) (by omega) hBg hBW hB5w hJ5)
          rw [fldsN_s] at HO
          have HO : Hid (Calls Tryd.prog 41 #[.pointer (some ⟨g, 0, none⟩), .slice (some ⟨gF, 0, none⟩) 3 3] w5 fun e w' => e = .returned (.tuple #[]) ∧ Blk w' W.heap.size 53 (rowN (toN (objR specN q0).1)).toArray ∧ RdB w' g (objR specN q0).2 ∧ R2 w5 g W.heap.size w') := HO
          have hol := objR_le specN q0
          have hot := objR_lt specN q0
          generalize objR specN q0 = y at *
          obtain ⟨y1, y2, y3⟩ := y
          clear hX5 hF hcs hb5 hJ5 hbW
          go_wp2_with fail
          refine HO.out.mono ?_
          rintro e w6 ⟨rfl, hX6, hb6, hR6⟩
          have hown6 : RwN w6 w.heap.size (.slice A acc.length c) (acc.map toN) := hownW.two hgw hRa hR6
          have hRt6 : Rt w g w6 := hRW.two (hRa.r2 W.heap.size |>.trans hR6)
          have hsz6 := hRt6.size
          obtain ⟨x, hx⟩ : ∃ x, x = toN y1 := ⟨_, rfl⟩
          rw [← hx] at hX6
          have HXE := Lib.hid hx
          clear hx
          have hX6 : Blk w6 W.heap.size 53 #[.string x.name, .int .i64 x.room, .string x.zone] := hX6
          have hat : At w6 ⟨W.heap.size, 0, none⟩ [.string x.name, .int .i64 x.room, .string x.zone] := At.blk hX6
          clear HO hR6 hRa hR5 hown5 hownW hRW
          have bE := Blk.new w6 53 #[.string x.name, .int .i64 x.room, .string x.zone]
          have hownE : RwN (w6.alloc (.cells #[.string x.name, .int .i64 x.room, .string x.zone] 53)) w.heap.size _ (acc.map toN) := World.ownsRow.alloc hown6 _
          have hlen : (acc.map toN).length + 1 ≤ 1099511627776 := by rw [hml]; omega
          have hszE : w.heap.size ≤ (w6.alloc (.cells #[.string x.name, .int .i64 x.room, .string x.zone] 53)).heap.size := by simp; omega
          go_wp2_with (first
            | (refine wpList_load_at rfl _ _ rfl ⟨W.heap.size, 0, none⟩ rfl [.string x.name, .int .i64 x.room, .string x.zone] _ hat Tryd.underlying53 rfl sizeNV ?_)
            | (at_builtin; go_loud (refine wpList_append_NV rfl _ _ rfl w.heap.size _ (acc.map toN) rfl hownE w6.heap.size x rfl bE hlen hszE ?_)))
          intro v7 w7 hown7 hG7
          have hb7 : RdB w7 g (y2, y3) := hG7.blk (Blk.alloc hb6 _) (by decide)
          have hR7 : Rt w g w7 := (hRt6.trans (Rt.new ((Below.refl _ _).alloc (Nat.le_refl _) _))).gr hG7.1
          go_wp2_with fail
          go_roundg (gk - 1)
          case rel => exact ⟨acc ++ [y1], y2, y3, by rw [List.map_append, List.map_cons, List.map_nil, ← HXE.out]; exact hown7, hb7, hR7, HST, by simp at *; omega, fun h => by have := hot h; simp at *; omega, by cases y3 <;> simp at * <;> omega⟩
          case measure => simp at hgk; omega
    · have HT := Lib.hid H.out.wrong
      clear H
      go_wp2_with fail
      go_ret
      rw [HT.out]
      exact ⟨_, rfl, hown, hbR, hRt⟩
end Go.Proofs.YtdicoepjkngikaaDoor

/-
 Contracts of package json: rows read: LeaseD. Printed by wip/gen_jsonv.py.
-/
set_option linter.unusedVariables false
set_option linter.unusedSimpArgs false
namespace Go.Proofs.YtdicoepjkngikaaDoor
open Go.RowKit
theorem infoLV : (Tryd.prog.info? 57).map (fun i => (i.zero, i.size, i.bytes)) = some (some (.agg #[.string ByteArray.empty, .string ByteArray.empty, .int .i64 0]), 3, 40) := by kernel_rfl
theorem sizeLV : (Tryd.prog.info? 57).map (·.size) = some 3 := by kernel_rfl
section
variable {w : World} {ops : Array Oper} {rest : List Oper} {o : Oper} {a : Act} {Q : Exit → Act → World → Prop}
theorem wpList_append_LV (hgd : o.guard = none) (s x : Operand)
    (ho : o.op = .call { callee := .builtin .append, args := #[s, x], argTypes := #[24, 24] })
    (base : Nat) (v : Value) (acc : List LeaseD) (hs : a.eval s = v) (hown : RwL w base v acc) (g : Nat) (j : LeaseD) (hx : a.eval x = .slice (some ⟨g, 0, none⟩) 1 1)
    (hb : Blk w g 57 (rowL j).toArray) (hlen : acc.length + 1 ≤ 1099511627776) (hbase : base ≤ w.heap.size)
    (h : ∀ v' w', RwL w' base v' (acc ++ [j]) → Gr 57 base w w' → wpList Tryd.prog ops Q rest (a.put o.dst v') w') : wpList Tryd.prog ops Q (o :: rest) a w := by
  obtain ⟨i0, hi, hz0, hz1, hz2⟩ := info_parts infoLV
  refine wpList_append_own w hgd s x 24 ho base 57 i0 _ 3 40 Tryd.underlying24 hi hz0 hz1 hz2 rfl (by decide) v acc.length (acc.flatMap rowL) hs hown ⟨g, 0, none⟩ 1 1 (rowL j) hx rfl ?_ ?_ ?_ ?_ hbase ?_
  · exact World.news_of_block hb
  · simp [rowL, Value.oneCell']
  · simp only [maxLen]; omega
  · omega
  · intro v' w' hown' hg _
    refine h v' w' ?_ ⟨(Below.refl base w).grown hg hbase (fun k hk => (World.ownsRow.lt hown k hk).1), fun k o hk _ ho => (hg.block k (Array.getElem?_eq_some_iff.1 hk).1 (fun h0 => ?_)).trans hk⟩
    · unfold RwL
      rw [List.flatMap_append, List.length_append]
      simpa using hown'
    · rcases hown.2 with ⟨rfl, _⟩ | ⟨g, cap, cur, rfl, _, hg', _⟩
      · cases h0
      · simp only [Value.ownBlock, Option.some.injEq] at h0
        subst h0
        rw [hk] at hg'; injection hg' with hg'
        exact ho _ _ hg'
end
theorem RwL.rt {w w' : World} {base g : Nat} {v : Value} {l : List LeaseD} (h : RwL w base v l) (hR : Rt w g w') (hg : g < base) : RwL w' base v l :=
  World.ownsRow.kept (row := some g) h hR (.inr (fun h0 => by have := (World.ownsRow.lt h g h0).1; omega))
theorem RwL.two {w W w5 w6 : World} {g : Nat} {v : Value} {l : List LeaseD} (h : RwL W w.heap.size v l) (hg : g < w.heap.size) (hR : Rt W g w5) (hk : R2 w5 g W.heap.size w6) : RwL w6 w.heap.size v l := by
  have h5 := h.rt hR hg
  refine ⟨h5.1, ?_⟩
  rcases h.2 with h0 | ⟨g', cap, cur, rfl, hb, hg', rest⟩
  · exact .inl h0
  · have hlt : g' < W.heap.size := (Array.getElem?_eq_some_iff.1 hg').1
    have hs := hR.size
    exact .inr ⟨g', cap, cur, rfl, hb, (hk.block g' (by omega) (by omega) (by omega)).trans ((hR.block g' hlt (fun h0 => by injection h0; omega)).trans hg'), rest⟩
theorem fldsL_p (X : Nat) (x : LeaseD) : ∀ k (h : k < (fldsL ⟨X, 0, none⟩ x).length), (fldsL ⟨X, 0, none⟩ x)[k].p = ⟨X, k, none⟩ := by
  intro k h
  match k, h with
  | 0, _ => rfl
  | 1, _ => rfl
  | 2, _ => rfl
  | k + 3, h => exact absurd h (by simp [fldsL])
theorem fldsL_n (X : Nat) (x : LeaseD) : ∀ f ∈ fldsL ⟨X, 0, none⟩ x, f.name.size ≤ 16 := by
  intro f hf
  simp only [fldsL, List.mem_cons, List.not_mem_nil, or_false] at hf
  rcases hf with rfl | rfl | rfl <;> (dsimp only; decide)
theorem fldsL_s (X : Nat) (x : LeaseD) : specF (fldsL ⟨X, 0, none⟩ x) = specL := rfl
set_option maxHeartbeats 8000000 in
set_option maxRecDepth 100000 in
theorem elemsL_any (B g : Nat) (s : RdS) (hl : s.1.length ≤ 60000) (w : World) (hb : RdB w g s) (hBw : B ≤ w.heap.size) (hBg : B ≤ g) (hJ : LibJ B w) :
    Calls Tryd.prog 19 #[.pointer (some ⟨g, 0, none⟩), .string nLeases, .func (.func 20) #[] #[]] w fun e w' => ∃ v, e = .returned v ∧ RwL w' w.heap.size v ((elR specL nLeases s).1.map toL) ∧ RdB w' g (elR specL nLeases s).2 ∧ Rt w g w' := by
  have hgw : g < w.heap.size := Blk.lt hb
  have hI := elI_start specL nLeases s
  have hle : (mustL (44 :: (quoteL nLeases.data.toList ++ [58, 91])) s).1.length ≤ 60000 := Nat.le_trans (mustL_le _ _) hl
  have hns : nLeases.size ≤ 16 := by decide
  generalize elR specL nLeases s = R at *
  generalize nLeases = nm at *
  have HNC := Lib.hid (name_arr (quoteL nm.data.toList))
  have hqs := quoteL_len nm.data.toList
  rw [bl_len] at hqs
  have HI := Lib.hid hI
  have hnq : 6 * nm.size + 2 ≤ 140737488355328 := by omega
  clear hI
  go_enter Tryd.func19, Tryd.ntmps19
  go_wp2_with fail
  refine (Quote_any nm w hnq).mono ?_
  rintro e w1 ⟨rfl, hB1⟩
  have hb1 : RdB w1 g s := Blk.below hb hB1 hgw
  have hR1 := Rt.new (g := g) hB1
  have hSz : (bstr (quoteL nm.data.toList)).size ≤ 98 := by rw [bstr_size]; omega
  clear hqs hB1 hns
  generalize bstr (quoteL nm.data.toList) = SQ at *
  have hcat1 : ¬ (9223372036854775807 : Int) < 1 + (SQ.size : Int) := by omega
  have hcat2 : ¬ 9223372036854775807 < 1 + SQ.size := by omega
  have hcat3 : ¬ (9223372036854775807 : Int) < 1 + (SQ.size : Int) + 2 := by omega
  have hcat4 : ¬ 9223372036854775807 < 1 + SQ.size + 2 := by omega
  go_wp2_with fail
  refine (must_any g s _ w1 hb1).mono ?_
  rintro e w2 ⟨rfl, hb2, hR2⟩
  rw [HNC.out] at hb2
  have hR2 := hR1.trans hR2
  generalize mustL (44 :: (quoteL nm.data.toList ++ [58, 91])) s = s1 at *
  obtain ⟨l1, b1⟩ := s1
  have hle : l1.length ≤ 60000 := hle
  clear hcat1 hcat2 hcat3 hcat4 HNC hSz hb1 hR1
  go_wp2_with fail
  have hsz2 := hR2.size
  go_loopg [7] 60002 (fun gk v wx => ∃ (acc : List (List FV)) (l : List UInt8) (b : Bool), RwL wx w.heap.size v (acc.map toL) ∧ RdB wx g (l, b) ∧ Rt w g wx ∧ Hid (ElI R specL acc l b) ∧ l.length ≤ 60000 ∧ (b = false → acc.length + l.length ≤ 60000) ∧ l.length + (!b).toNat < gk)
  case atStart => exact ⟨[], l1, b1, World.ownsRow_nil _ _ _ _, hb2, hR2, HI, hle, fun _ => by simpa using hle, by cases b1 <;> simp <;> omega⟩
  case round =>
    obtain ⟨acc, l, b, hown, hbR, hRt, H, hll, hal, hgk⟩ := hrel
    have hbR' : Blk wr g 44 #[.string (bstr l), .bool b] := hbR
    have c1 : wr.cell? ⟨g, 1, none⟩ = some (.bool b) := hbR'.cell 1
    clear hb2 hR2 HI
    cases b
    · have hal := hal rfl
      have HI1 := Lib.hid (is_any g (l, false) ⟨#[93]⟩ wr hbR)
      have HH := Lib.hid H.out
      clear H
      by_cases hq : [93] <+: l
      · have hi := isL_pos hq
        have HT := Lib.hid (HH.out.close hq)
        have HX : Hid (Calls Tryd.prog 38 #[.pointer (some ⟨g, 0, none⟩), .string ⟨#[93]⟩] wr fun e w' => e = .returned (.bool true) ∧ RdB w' g (l.drop 1, false) ∧ Rt wr g w') := by
          have h := HI1.out
          rw [show (⟨#[93]⟩ : ByteArray).data.toList = [93] from rfl, hi] at h
          exact h
        clear hi HI1 hq
        go_wp2_with fail
        refine HX.out.mono ?_
        rintro e w3 ⟨rfl, hb3, hR3⟩
        have hown3 := hown.rt hR3 hgw
        go_wp2_with fail
        go_ret
        rw [HT.out]
        exact ⟨_, rfl, hown3, hb3, hRt.trans hR3⟩
      · have hi := isL_neg hq
        have HX : Hid (Calls Tryd.prog 38 #[.pointer (some ⟨g, 0, none⟩), .string ⟨#[93]⟩] wr fun e w' => e = .returned (.bool false) ∧ RdB w' g (l, false) ∧ Rt wr g w') := by
          have h := HI1.out
          rw [show (⟨#[93]⟩ : ByteArray).data.toList = [93] from rfl, hi] at h
          exact h
        have HST := Lib.hid (HH.out.step hq)
        have hnx := nextQ_le acc l
        have HNX := Lib.hid (show nextQ acc l = if acc ≠ [] then mustL [44] (l, false) else (l, false) from rfl)
        clear hi HI1 hq HH
        obtain ⟨A, c, rfl⟩ : ∃ A c, u7 = .slice A (acc.map toL).length c := by
          rcases hown.2 with ⟨h, h0⟩ | ⟨g, cap, cur, h, _⟩
          · exact ⟨_, _, by rw [h, h0]⟩
          · exact ⟨_, _, h⟩
        have hml : (acc.map toL).length = acc.length := by simp
        rw [hml] at hown
        go_wp2_with fail
        refine HX.out.mono ?_
        rintro e w3 ⟨rfl, hb3, hR3⟩
        have hown3 := hown.rt hR3 hgw
        have hR3 := hRt.trans hR3
        clear hown hbR hbR' c1 hRt HX
        rcases Nat.eq_zero_or_pos acc.length with h0 | h0
        · have hd : decide (0 < acc.length) = false := by simp [h0]
          have hq0 : nextQ acc l = (l, false) := by rw [HNX.out, if_neg (by simp [List.length_eq_zero_iff.1 h0])]
          rw [hq0] at HST hnx
          clear h0 HNX hq0
          obtain ⟨W, hW⟩ : ∃ W, W = w3 := ⟨_, rfl⟩
          subst hW
          obtain ⟨q0, hq0⟩ : ∃ q0, q0 = ((l, false) : RdS) := ⟨_, rfl⟩
          have hbW := hb3
          have hownW := hown3
          have hRW := hR3
          rw [← hq0] at hbW HST hnx
          clear hb3 hown3 hR3 hq0
          go_wp2_with fail
          refine (leaseFields_any ⟨W.heap.size, 0, none⟩ ⟨ByteArray.empty, ByteArray.empty, 0⟩ (W.alloc (.cells #[.string ByteArray.empty, .string ByteArray.empty, .int .i64 0] 57))).mono ?_
          rintro e w5 ⟨gF, cs, rfl, hF, hcs, hgF, hB5⟩
          have hX5 : Blk w5 W.heap.size 57 #[.string ByteArray.empty, .string ByteArray.empty, .int .i64 0] := (Blk.new W _ _).below hB5 (by simp)
          have hRa : Rt W g w5 := (Rt.new ((Below.refl _ _).alloc (Nat.le_refl _) _)).trans (Rt.new hB5)
          have hgW : g < W.heap.size := Blk.lt hbW
          have hb5 : RdB w5 g q0 := Blk.below (Blk.alloc hbW _) hB5 (by simp; omega)
          have hR5 := hRW.trans hRa
          have hown5 := hownW.rt hRa hgw
          have hBW : B ≤ W.heap.size := Nat.le_trans hBw hRW.size
          have hJ5 : LibJ B w5 := hJ.below (hR5.below hBg hBw)
          have hB5w : B ≤ w5.heap.size := Nat.le_trans hBw hR5.size
          have HO := Lib.hid (robject_any B g W.heap.size gF 3 57 (by decide) (by decide) (fldsL ⟨W.heap.size, 0, none⟩ ⟨ByteArray.empty, ByteArray.empty, 0⟩) cs q0 w5 hb5 hX5 hF hcs (fldsL_p _ _) (show 3 ≤ 5 by decide) (fldsL_n _ _) (by omega) hBg hBW hB5w hJ5)
          rw [fldsL_s] at HO
          have HO : Hid (Calls Tryd.prog 41 #[.pointer (some ⟨g, 0, none⟩), .slice (some ⟨gF, 0, none⟩) 3 3] w5 fun e w' => e = .returned (.tuple #[]) ∧ Blk w' W.heap.size 57 (rowL (toL (objR specL q0).1)).toArray ∧ RdB w' g (objR specL q0).2 ∧ R2 w5 g W.heap.size w') := HO
          have hol := objR_le specL q0
          have hot := objR_lt specL q0
          generalize objR specL q0 = y at *
          obtain ⟨y1, y2, y3⟩ := y
          clear hX5 hF hcs hb5 hJ5 hbW
          go_wp2_with fail
          refine HO.out.mono ?_
          rintro e w6 ⟨rfl, hX6, hb6, hR6⟩
          have hown6 : RwL w6 w.heap.size (.slice A acc.length c) (acc.map toL) := hownW.two hgw hRa hR6
          have hRt6 : Rt w g w6 := hRW.two (hRa.r2 W.heap.size |>.trans hR6)
          have hsz6 := hRt6.size
          obtain ⟨x, hx⟩ : ∃ x, x = toL y1 := ⟨_, rfl⟩
          rw [← hx] at hX6
          have HXE := Lib.hid hx
          clear hx
          have hX6 : Blk w6 W.heap.size 57 #[.string x.job, .string x.node, .int .i64 x.till] := hX6
          have hat : At w6 ⟨W.heap.size, 0, none⟩ [.string x.job, .string x.node, .int .i64 x.till] := At.blk hX6
          clear HO hR6 hRa hR5 hown5 hownW hRW
          have bE := Blk.new w6 57 #[.string x.job, .string x.node, .int .i64 x.till]
          have hownE : RwL (w6.alloc (.cells #[.string x.job, .string x.node, .int .i64 x.till] 57)) w.heap.size _ (acc.map toL) := World.ownsRow.alloc hown6 _
          have hlen : (acc.map toL).length + 1 ≤ 1099511627776 := by rw [hml]; omega
          have hszE : w.heap.size ≤ (w6.alloc (.cells #[.string x.job, .string x.node, .int .i64 x.till] 57)).heap.size := by simp; omega
          go_wp2_with (first
            | (refine wpList_load_at rfl _ _ rfl ⟨W.heap.size, 0, none⟩ rfl [.string x.job, .string x.node, .int .i64 x.till] _ hat Tryd.underlying57 rfl sizeLV ?_)
            | (at_builtin; go_loud (refine wpList_append_LV rfl _ _ rfl w.heap.size _ (acc.map toL) rfl hownE w6.heap.size x rfl bE hlen hszE ?_)))
          intro v7 w7 hown7 hG7
          have hb7 : RdB w7 g (y2, y3) := hG7.blk (Blk.alloc hb6 _) (by decide)
          have hR7 : Rt w g w7 := (hRt6.trans (Rt.new ((Below.refl _ _).alloc (Nat.le_refl _) _))).gr hG7.1
          go_wp2_with fail
          go_roundg (gk - 1)
          case rel => exact ⟨acc ++ [y1], y2, y3, by rw [List.map_append, List.map_cons, List.map_nil, ← HXE.out]; exact hown7, hb7, hR7, HST, by simp at *; omega, fun h => by have := hot h; simp at *; omega, by cases y3 <;> simp at * <;> omega⟩
          case measure => simp at hgk; omega
        · have hd : decide (0 < acc.length) = true := by simp [h0]
          have hq0 : nextQ acc l = mustL [44] (l, false) := by rw [HNX.out, if_pos (fun h => by rw [h] at h0; simp at h0)]
          rw [hq0] at HST hnx
          clear h0 HNX hq0
          have HK := Lib.hid (must_any g (l, false) ⟨#[44]⟩ w3 hb3)
          have HK : Hid (Calls Tryd.prog 13 #[.pointer (some ⟨g, 0, none⟩), .string ⟨#[44]⟩] w3 fun e w' => e = .returned (.tuple #[]) ∧ RdB w' g (mustL [44] (l, false)) ∧ Rt w3 g w') := HK
          generalize mustL [44] (l, false) = q0 at *
          go_wp2_with fail
          refine HK.out.mono ?_
          rintro e W ⟨rfl, hbW, hRk⟩
          have hownW := hown3.rt hRk hgw
          have hRW := hR3.trans hRk
          clear HK hb3 hown3 hR3 hRk
          go_wp2_with fail
          refine (leaseFields_any ⟨W.heap.size, 0, none⟩ ⟨ByteArray.empty, ByteArray.empty, 0⟩ (W.alloc (.cells #[.string ByteArray.empty, .string ByteArray.empty, .int .i64 0] 57))).mono ?_
          rintro e w5 ⟨gF, cs, rfl, hF, hcs, hgF, hB5⟩
          have hX5 : Blk w5 W.heap.size 57 #[.string ByteArray.empty, .string ByteArray.empty, .int .i64 0] := (Blk.new W _ _).below hB5 (by simp)
          have hRa : Rt W g w5 := (Rt.new ((Below.refl _ _).alloc (Nat.le_refl _) _)).trans (Rt.new hB5)
          have hgW : g < W.heap.size := Blk.lt hbW
          have hb5 : RdB w5 g q0 := Blk.below (Blk.alloc hbW _) hB5 (by simp; omega)
          have hR5 := hRW.trans hRa
          have hown5 := hownW.rt hRa hgw
          have hBW : B ≤ W.heap.size := Nat.le_trans hBw hRW.size
          have hJ5 : LibJ B w5 := hJ.below (hR5.below hBg hBw)
          have hB5w : B ≤ w5.heap.size := Nat.le_trans hBw hR5.size
          have HO := Lib.hid (robject_any B g W.heap.size gF 3 57 (by decide) (by decide) (fldsL ⟨W.heap.size, 0, none⟩ ⟨ByteArray.empty, ByteArray.empty, 0⟩) cs q0 w5 hb5 hX5 hF hcs (fldsL_p _ _) (show 3 ≤ 5 by decide) (fldsL_n _ _) (by omega) hBg hBW hB5w hJ5)
          rw [fldsL_s] at HO
          have HO : Hid (Calls Tryd.prog 41 #[.pointer (some ⟨g, 0, none⟩), .slice (some ⟨gF, 0, none⟩) 3 3] w5 fun e w' => e = .returned (.tuple #[]) ∧ Blk w' W.heap.size 57 (rowL (toL (objR specL q0).1)).toArray ∧ RdB w' g (objR specL q0).2 ∧ R2 w5 g W.heap.size w') := HO
          have hol := objR_le specL q0
          have hot := objR_lt specL q0
          generalize objR specL q0 = y at *
          obtain ⟨y1, y2, y3⟩ := y
          clear hX5 hF hcs hb5 hJ5 hbW
          go_wp2_with fail
          refine HO.out.mono ?_
          rintro e w6 ⟨rfl, hX6, hb6, hR6⟩
          have hown6 : RwL w6 w.heap.size (.slice A acc.length c) (acc.map toL) := hownW.two hgw hRa hR6
          have hRt6 : Rt w g w6 := hRW.two (hRa.r2 W.heap.size |>.trans hR6)
          have hsz6 := hRt6.size
          obtain ⟨x, hx⟩ : ∃ x, x = toL y1 := ⟨_, rfl⟩
          rw [← hx] at hX6
          have HXE := Lib.hid hx
          clear hx
          have hX6 : Blk w6 W.heap.size 57 #[.string x.job, .string x.node, .int .i64 x.till] := hX6
          have hat : At w6 ⟨W.heap.size, 0, none⟩ [.string x.job, .string x.node, .int .i64 x.till] := At.blk hX6
          clear HO hR6 hRa hR5 hown5 hownW hRW
          have bE := Blk.new w6 57 #[.string x.job, .string x.node, .int .i64 x.till]
          have hownE : RwL (w6.alloc (.cells #[.string x.job, .string x.node, .int .i64 x.till] 57)) w.heap.size _ (acc.map toL) := World.ownsRow.alloc hown6 _
          have hlen : (acc.map toL).length + 1 ≤ 1099511627776 := by rw [hml]; omega
          have hszE : w.heap.size ≤ (w6.alloc (.cells #[.string x.job, .string x.node, .int .i64 x.till] 57)).heap.size := by simp; omega
          go_wp2_with (first
            | (refine wpList_load_at rfl _ _ rfl ⟨W.heap.size, 0, none⟩ rfl [.string x.job, .string x.node, .int .i64 x.till] _ hat Tryd.underlying57 rfl sizeLV ?_)
            | (at_builtin; go_loud (refine wpList_append_LV rfl _ _ rfl w.heap.size _ (acc.map toL) rfl hownE w6.heap.size x rfl bE hlen hszE ?_)))
          intro v7 w7 hown7 hG7
          have hb7 : RdB w7 g (y2, y3) := hG7.blk (Blk.alloc hb6 _) (by decide)
          have hR7 : Rt w g w7 := (hRt6.trans (Rt.new ((Below.refl _ _).alloc (Nat.le_refl _) _))).gr hG7.1
          go_wp2_with fail
          go_roundg (gk - 1)
          case rel => exact ⟨acc ++ [y1], y2, y3, by rw [List.map_append, List.map_cons, List.map_nil, ← HXE.out]; exact hown7, hb7, hR7, HST, by simp at *; omega, fun h => by have := hot h; simp at *; omega, by cases y3 <;> simp at * <;> omega⟩
          case measure => simp at hgk; omega
    · have HT := Lib.hid H.out.wrong
      clear H
      go_wp2_with fail
      go_ret
      rw [HT.out]
      exact ⟨_, rfl, hown, hbR, hRt⟩
end Go.Proofs.YtdicoepjkngikaaDoor
