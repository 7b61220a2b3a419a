/-
  Several texts in one: UtfR, UtfQ, UtfN.
-/
import Derived.Lib.ValidLaws
import Derived.Lib.TrimUEq
import Derived.Test.YtnmokjgnbcfabaaDoorPkStateA
import Derived.Test.YtnmokjgnbcfabaaDoorPkBase
import Derived.Laws.Cover1
import Derived.IntWalk
import Derived.Deep.DeepCutAuto
/-
  Plain: UTF-8 by the lead byte's class.
-/
set_option linter.unusedVariables false
set_option linter.unusedSimpArgs false
namespace Go.Proofs.YtnmokjgnbcfabaaDoor
open Go.Lib
def uMany (c : Nat) : Nat := if c < 128 then 0 else if 194 ≤ c ∧ c ≤ 223 then 1 else if 224 ≤ c ∧ c ≤ 239 then 2 else if 240 ≤ c ∧ c ≤ 244 then 3 else 9
def uLo (c : Nat) : Nat := if c = 224 then 160 else if c = 240 then 144 else 128
def uHi (c : Nat) : Nat := if c = 237 then 159 else if c = 244 then 143 else 191
def uL (c j : Nat) : Nat := if j = 1 then uLo c else 128
def uH (c j : Nat) : Nat := if j = 1 then uHi c else 191
/-- Byte j behind the lead byte c may be b. -/
def uFit (c j b : Nat) : Prop := uL c j ≤ b ∧ b ≤ uH c j
set_option maxHeartbeats 4000000 in
theorem decN (n b0 b1 b2 b3 : Nat) (h0 : b0 < 256) (h1 : b1 < 256) (h2 : b2 < 256) (h3 : b3 < 256) (hn : 0 < n) :
    ((uMany b0 ≤ 3 ∧ uMany b0 < n ∧ (1 ≤ uMany b0 → uFit b0 1 b1) ∧ (2 ≤ uMany b0 → uFit b0 2 b2) ∧ (3 ≤ uMany b0 → uFit b0 3 b3)) → ¬ ((decodeN n b0 b1 b2 b3).1 = 65533 ∧ (decodeN n b0 b1 b2 b3).2 = 1) ∧ (decodeN n b0 b1 b2 b3).2 = uMany b0 + 1)
    ∧ (¬ (uMany b0 ≤ 3 ∧ uMany b0 < n ∧ (1 ≤ uMany b0 → uFit b0 1 b1) ∧ (2 ≤ uMany b0 → uFit b0 2 b2) ∧ (3 ≤ uMany b0 → uFit b0 3 b3)) → (decodeN n b0 b1 b2 b3).1 = 65533 ∧ (decodeN n b0 b1 b2 b3).2 = 1) := by
  have e1 : (b1 / 64 = 2) = (128 ≤ b1 ∧ b1 ≤ 191) := propext (by omega)
  have e2 : (b2 / 64 = 2) = (128 ≤ b2 ∧ b2 ≤ 191) := propext (by omega)
  have e3 : (b3 / 64 = 2) = (128 ≤ b3 ∧ b3 ≤ 191) := propext (by omega)
  have d6 : (b0 / 32 = 6) = (192 ≤ b0 ∧ b0 ≤ 223) := propext (by omega)
  have d14 : (b0 / 16 = 14) = (224 ≤ b0 ∧ b0 ≤ 239) := propext (by omega)
  have d30 : (b0 / 8 = 30) = (240 ≤ b0 ∧ b0 ≤ 247) := propext (by omega)
  unfold uFit uL uH
  simp only [if_true, show ((2 : Nat) = 1) = False from by simp, show ((3 : Nat) = 1) = False from by simp, if_false]
  unfold uMany uLo uHi decodeN
  simp only [e1, e2, e3, d6, d14, d30]
  by_cases c1 : b0 < 128
  · simp only [c1, if_true]
    exact ⟨fun _ => ⟨by omega, trivial⟩, fun h => absurd ⟨by omega, by omega, fun h => by omega, fun h => by omega, fun h => by omega⟩ h⟩
  simp only [c1, if_false]
  by_cases c2 : b0 ≤ 223
  · have n14 : ¬ (224 ≤ b0 ∧ b0 ≤ 239) := by omega
    have n30 : ¬ (240 ≤ b0 ∧ b0 ≤ 247) := by omega
    have n31 : ¬ (240 ≤ b0 ∧ b0 ≤ 244) := by omega
    have q1 : b0 ≠ 224 ∧ b0 ≠ 240 ∧ b0 ≠ 237 ∧ b0 ≠ 244 := by omega
    simp only [n14, n30, n31, if_false, false_and, q1.1, q1.2.1, q1.2.2.1, q1.2.2.2]
    by_cases c3 : 194 ≤ b0
    · simp only [show (194 ≤ b0 ∧ b0 ≤ 223) = True from eq_true ⟨c3, c2⟩, if_true, show (192 ≤ b0 ∧ b0 ≤ 223) = True from eq_true (by omega), true_and]
      by_cases hc : 1 < n ∧ 128 ≤ b1 ∧ b1 ≤ 191
      · have m1 : b0 % 32 * 64 + b1 % 64 ≥ 128 := by omega
        have m2 : b0 % 32 * 64 + b1 % 64 ≠ 65533 := by omega
        rw [if_pos hc, if_pos m1]
        omega
      · rw [if_neg hc]; omega
    · simp only [show (194 ≤ b0 ∧ b0 ≤ 223) = False from eq_false (by omega), if_false]
      have m1 : ¬ (b0 % 32 * 64 + b1 % 64 ≥ 128) ∨ b0 < 192 := by omega
      by_cases hc : (192 ≤ b0 ∧ b0 ≤ 223) ∧ 1 < n ∧ 128 ≤ b1 ∧ b1 ≤ 191
      · rw [if_pos hc, if_neg (by omega)]; omega
      · rw [if_neg hc]; omega
  by_cases c3 : b0 ≤ 239
  · have n6 : ¬ (192 ≤ b0 ∧ b0 ≤ 223) := by omega
    have n7 : ¬ (194 ≤ b0 ∧ b0 ≤ 223) := by omega
    have n30 : ¬ (240 ≤ b0 ∧ b0 ≤ 247) := by omega
    have n31 : ¬ (240 ≤ b0 ∧ b0 ≤ 244) := by omega
    have y14 : (224 ≤ b0 ∧ b0 ≤ 239) = True := eq_true (by omega)
    have q1 : b0 ≠ 240 ∧ b0 ≠ 244 := by omega
    simp only [n6, n7, n30, n31, y14, if_false, if_true, false_and, true_and, q1.1, q1.2]
    have m0 : b0 % 16 = b0 - 224 := by omega
    rw [m0]
    by_cases hc : (1 < n ∧ 128 ≤ b1 ∧ b1 ≤ 191) ∧ 2 < n ∧ 128 ≤ b2 ∧ b2 ≤ 191
    · have m1 : b1 % 64 = b1 - 128 := by omega
      have m2 : b2 % 64 = b2 - 128 := by omega
      rw [m1, m2, if_pos hc]
      repeat' split
      all_goals (try dsimp only)
      all_goals omega
    · rw [if_neg hc]
      repeat' split
      all_goals omega
  have n6 : ¬ (192 ≤ b0 ∧ b0 ≤ 223) := by omega
  have n7 : ¬ (194 ≤ b0 ∧ b0 ≤ 223) := by omega
  have n14 : ¬ (224 ≤ b0 ∧ b0 ≤ 239) := by omega
  simp only [n6, n7, n14, if_false, false_and]
  by_cases hc : (240 ≤ b0 ∧ b0 ≤ 247) ∧ (1 < n ∧ 128 ≤ b1 ∧ b1 ≤ 191) ∧ (2 < n ∧ 128 ≤ b2 ∧ b2 ≤ 191) ∧ 3 < n ∧ 128 ≤ b3 ∧ b3 ≤ 191
  · have m0 : b0 % 8 = b0 - 240 := by omega
    have m1 : b1 % 64 = b1 - 128 := by omega
    have m2 : b2 % 64 = b2 - 128 := by omega
    have m3 : b3 % 64 = b3 - 128 := by omega
    rw [m0, m1, m2, m3, if_pos hc]
    repeat' split
    all_goals (try dsimp only)
    all_goals omega
  · rw [if_neg hc]
    repeat' split
    all_goals omega
theorem validD_step (l : List UInt8) (h : l ≠ []) : validD l = if (decodeL l).1 = 65533 ∧ (decodeL l).2 = 1 then false else validD (l.drop (decodeL l).2) := by
  unfold validD
  obtain ⟨n, hn⟩ : ∃ n, l.length = n + 1 := by cases l; exact absurd rfl h; exact ⟨_, rfl⟩
  rw [hn]
  show (if l = [] then true else _) = _
  rw [if_neg h]
  split
  · rfl
  · have := decodeL_width l
    exact validGoD_fuel _ _ _ (by rw [List.length_drop]; omega) (Nat.le_refl _)
/-- Byte k of l. -/
def uB (l : List UInt8) (k : Nat) : Nat := (l.getD k 0).toNat
def uOk (l : List UInt8) (i : Nat) : Prop := uMany (uB l i) ≤ 3 ∧ i + uMany (uB l i) < l.length ∧ ∀ j, 1 ≤ j → j ≤ uMany (uB l i) → uFit (uB l i) j (uB l (i + j))
theorem uB_get (s : ByteArray) (k : Nat) (h : k < s.size) : (s[k]'h).toNat = uB s.data.toList k := by
  unfold uB
  rw [getD_get!']
  congr 1
  cases s with
  | mk d => show d[k] = d[k]!; exact (getElem!_pos d k h).symm
theorem uB_lt (l : List UInt8) (k : Nat) : uB l k < 256 := UInt8.toNat_lt _
theorem uStep (l : List UInt8) (i : Nat) (h : i < l.length) : (uOk l i → validD (l.drop i) = validD (l.drop (i + (uMany (uB l i) + 1)))) ∧ (¬ uOk l i → validD (l.drop i) = false) := by
  have hne : l.drop i ≠ [] := fun e => by have := congrArg List.length e; rw [List.length_drop] at this; simp at this; omega
  have hD := decN (l.length - i) (uB l i) (uB l (i + 1)) (uB l (i + 2)) (uB l (i + 3)) (uB_lt _ _) (uB_lt _ _) (uB_lt _ _) (uB_lt _ _) (by omega)
  have hq : decodeL (l.drop i) = decodeN (l.length - i) (uB l i) (uB l (i + 1)) (uB l (i + 2)) (uB l (i + 3)) := by
    rw [decodeL_N, List.length_drop, getD_dropU, getD_dropU, getD_dropU, getD_dropU, Nat.add_zero]; rfl
  rw [← hq] at hD
  have hv := validD_step (l.drop i) hne
  have hiff : uOk l i ↔ (uMany (uB l i) ≤ 3 ∧ uMany (uB l i) < l.length - i ∧ (1 ≤ uMany (uB l i) → uFit (uB l i) 1 (uB l (i + 1))) ∧ (2 ≤ uMany (uB l i) → uFit (uB l i) 2 (uB l (i + 2))) ∧ (3 ≤ uMany (uB l i) → uFit (uB l i) 3 (uB l (i + 3)))) := by
    constructor
    · rintro ⟨a, b, c⟩
      exact ⟨a, by omega, fun h => c 1 (by omega) h, fun h => c 2 (by omega) h, fun h => c 3 (by omega) h⟩
    · rintro ⟨a, b, c1, c2, c3⟩
      refine ⟨a, by omega, fun j h1 h2 => ?_⟩
      have : j = 1 ∨ j = 2 ∨ j = 3 := by omega
      rcases this with rfl | rfl | rfl
      · exact c1 h2
      · exact c2 h2
      · exact c3 h2
  rw [← hiff] at hD
  constructor
  · intro hk
    obtain ⟨ha, hb⟩ := hD.1 hk
    rw [hv, if_neg ha, List.drop_drop, hb]
  · intro hk
    rw [hv, if_pos (hD.2 hk)]
theorem validD_end (l : List UInt8) (i : Nat) (h : l.length ≤ i) : validD (l.drop i) = true := by
  rw [List.drop_eq_nil_of_le h]; rfl
end Go.Proofs.YtnmokjgnbcfabaaDoor

/-
  The reference's isUTF8.
-/
set_option linter.unusedVariables false
set_option linter.unusedSimpArgs false
namespace Go.Proofs.YtnmokjgnbcfabaaDoor
open Go.ChangeShapes Go.WideShapes Go.ChangeAt Go.RowKit Go.Joins
theorem out_any (n a b : Int) (w : World) : Calls Tryd.prog 34 #[.int .i64 n, .int .i64 a, .int .i64 b] w fun e w' => e = .returned (.bool (decide (n < a) || decide (n > b))) ∧ Below w.heap.size w w' := by
  go_enter Tryd.func34, Tryd.ntmps34
  go_wp2_with fail
  · go_ret
    refine ⟨?_, Below.refl _ _⟩
    rfl
  · go_ret
    refine ⟨?_, Below.refl _ _⟩
    simp_all
set_option maxHeartbeats 4000000 in
set_option maxRecDepth 100000 in
theorem utf_any (s : ByteArray) (w : World) (hs : s.size ≤ 4611686018427387904) : Calls Tryd.prog 74 #[.string s] w fun e w' => e = .returned (.bool (Lib.validD s.data.toList)) ∧ Below w.heap.size w w' := by
  go_enter Tryd.func74, Tryd.ntmps74
  go_wp2_with fail
  go_loopw [3] (fun i wr => ∃ k : Nat, k ≤ s.size ∧ i = .int .i64 k ∧ Below w.heap.size w wr ∧ Hid (Lib.validD s.data.toList = Lib.validD (s.data.toList.drop k))) (fun i _ => s.size - (intOf i).toNat)
  case atStart => exact ⟨0, by omega, rfl, Below.refl _ _, Lib.hid (by rw [List.drop_zero])⟩
  case round =>
    obtain ⟨k, hk, rfl, hb, H⟩ := hrel
    by_cases hlt : k < s.size
    · have hlen : s.data.toList.length = s.size := by simp
      have hS := uStep s.data.toList k (by omega)
      rw [← H.out] at hS
      have hSg : uOk s.data.toList k → Lib.validD s.data.toList = Lib.validD (s.data.toList.drop (k + (uMany (uB s.data.toList k) + 1))) := hS.1
      have hSb : ¬ uOk s.data.toList k → Lib.validD s.data.toList = false := hS.2
      unfold uOk at hSg hSb
      rw [hlen] at hSg hSb
      have hcb := uB_lt s.data.toList k
      have hw : wrap64 (((s[k]'hlt).toNat : Nat) : Int) = ((uB s.data.toList k : Nat) : Int) := by rw [uB_get]; unfold wrap64; omega
      have HW := Lib.hid hw
      generalize uB s.data.toList k = c at hSg hSb hcb hw HW
      have HG := Lib.hid hSg
      have HB := Lib.hid hSb
      have HV := Lib.hid hlen
      clear hSg hSb hS hw hlen H
      go_upto_block 2 with (fail)
      rw [HW.out]
      go_cut [5, 6, 7] (fun m lo hi wx => m = .int .i64 (uMany c : Nat) ∧ lo = .int .i64 (uLo c : Nat) ∧ hi = .int .i64 (uHi c : Nat) ∧ uMany c ≤ 3 ∧ wx = wr)
      case first =>
        go_wp2_with fail
        all_goals first
          | (go_meet
             refine ⟨congrArg (Value.int .i64) ?_, congrArg (Value.int .i64) ?_, congrArg (Value.int .i64) ?_, ?_, rfl⟩
             · unfold uMany; (repeat' split) <;> first | omega | (simp only [beq_iff_eq, beq_eq_false_iff_ne, ne_eq] at *; omega)
             · unfold uLo; (repeat' split) <;> first | omega | (simp only [beq_iff_eq, beq_eq_false_iff_ne, ne_eq] at *; omega)
             · unfold uHi; (repeat' split) <;> first | omega | (simp only [beq_iff_eq, beq_eq_false_iff_ne, ne_eq] at *; omega)
             · unfold uMany; (repeat' split) <;> first | omega | (simp only [beq_iff_eq, beq_eq_false_iff_ne, ne_eq] at *; omega))
          | (go_ret
             refine ⟨?_, hb⟩
             rw [HB.out (fun h => absurd h.1 (by unfold uMany; (repeat' split) <;> omega))]
             rfl)
          | skip
      case rest =>
        obtain ⟨rfl, rfl, rfl, hm3, rfl⟩ := hcut
        have hkm : IntKind.i64.wrap ((k : Int) + (uMany c : Int)) = (k : Int) + (uMany c : Int) := IntWalk.i64_in _ (by omega)
        by_cases hin : k + uMany c < s.size
        · have hin2 : ¬ ((s.size : Int) ≤ (k : Int) + (uMany c : Int)) := by omega
          go_wp2_with fail
          go_loopw [6, 7, 8] (fun lo hi j wx => ∃ t : Nat, 1 ≤ t ∧ t ≤ uMany c + 1 ∧ j = .int .i64 t ∧ lo = .int .i64 (uL c t : Nat) ∧ hi = .int .i64 (uH c t : Nat) ∧ Below w.heap.size w wx ∧ Hid (∀ x, 1 ≤ x → x < t → uFit c x (uB s.data.toList (k + x)))) (fun _ _ j _ => uMany c + 1 - (intOf j).toNat)
          case atStart => exact ⟨1, by omega, by omega, rfl, rfl, rfl, hb, Lib.hid (fun x h1 h2 => by omega)⟩
          case round =>
            obtain ⟨t, ht1, ht2, rfl, rfl, rfl, hb2, HF⟩ := hrel
            by_cases htm : t ≤ uMany c
            · have htm2 : (t : Int) ≤ (uMany c : Int) := by omega
              have hkt : IntKind.i64.wrap ((k : Int) + (t : Int)) = (k : Int) + (t : Int) := IntWalk.i64_in _ (by omega)
              have ht3 : IntKind.i64.wrap ((t : Int) + 1) = ((t + 1 : Nat) : Int) := by rw [IntWalk.i64_in _ (by omega)]; omega
              have hlt2 : (k : Int) + (t : Int) < (s.size : Int) := by omega
              have hlt3 : (0 : Int) ≤ (k : Int) + (t : Int) := by omega
              have hltn : k + t < s.size := by omega
              have hwj : wrap64 (((s[k + t]'hltn).toNat : Nat) : Int) = ((uB s.data.toList (k + t) : Nat) : Int) := by rw [uB_get]; have := uB_lt s.data.toList (k + t); unfold wrap64; omega
              have HWJ := Lib.hid hwj
              clear hwj
              go_upto_region 26 with (fail)
              go_wp2_with (refine (out_any _ _ _ _).mono ?_; rintro e w2 ⟨rfl, hb3⟩)
              · rename_i h
                rw [HWJ.out] at h
                go_ret
                refine ⟨?_, hb2.trans (hb3.mono hb2.size)⟩
                rw [HB.out (fun hh => by have := hh.2.2 t ht1 htm; unfold uFit at this; omega)]
                rfl
              · rename_i h
                rw [HWJ.out] at h
                refine ⟨⟨t + 1, by omega, by omega, congrArg (Value.int .i64) (by omega), congrArg (Value.int .i64) ?_, congrArg (Value.int .i64) ?_, hb2.trans (hb3.mono hb2.size), Lib.hid (fun x h1 h2 => ?_)⟩, ?_⟩
                · unfold uL; rw [if_neg (by omega)]; rfl
                · unfold uH; rw [if_neg (by omega)]; rfl
                · by_cases hx : x = t
                  · subst hx; unfold uFit; omega
                  · exact HF.out x h1 (by omega)
                · show uMany c + 1 - ((t : Int) + 1).toNat < uMany c + 1 - (t : Int).toNat
                  omega
            · have htm2 : ¬ (t : Int) ≤ (uMany c : Int) := by omega
              have hq1 : IntKind.i64.wrap ((uMany c : Int) + 1) = (uMany c : Int) + 1 := IntWalk.i64_in _ (by omega)
              have hq2 : IntKind.i64.wrap ((k : Int) + ((uMany c : Int) + 1)) = (k : Int) + ((uMany c : Int) + 1) := IntWalk.i64_in _ (by omega)
              go_wp2_with fail
              refine ⟨⟨k + (uMany c + 1), by omega, congrArg (Value.int .i64) (by omega), hb2, Lib.hid (HG.out ⟨hm3, hin, fun x h1 h2 => HF.out x h1 (by omega)⟩)⟩, ?_⟩
              show s.size - ((k : Int) + ((uMany c : Int) + 1)).toNat < s.size - (k : Int).toNat
              omega
        · have hin2 : (s.size : Int) ≤ (k : Int) + (uMany c : Int) := by omega
          go_wp2_with fail
          go_ret
          refine ⟨?_, hb⟩
          rw [HB.out (fun h => absurd h.2.1 hin)]
          rfl
    · go_wp2_with fail
      go_ret
      refine ⟨?_, hb⟩
      rw [H.out, validD_end _ _ (by simp; omega)]
      rfl
end Go.Proofs.YtnmokjgnbcfabaaDoor

/-
  Contracts of the reference's checks of a node.
-/
set_option linter.unusedVariables false
set_option linter.unusedSimpArgs false
namespace Go.Proofs.YtnmokjgnbcfabaaDoor
open Go.RowKit
set_option maxHeartbeats 1000000 in
set_option maxRecDepth 100000 in
theorem noteR_any (s : ByteArray) (w : World) (hs : s.size ≤ 4611686018427387904) :
    Calls Tryd.prog 33 #[.string s] w fun e w' => e = .returned (.bool (textOk s)) ∧ Below w.heap.size w w' := by
  have h1 := utf_any s w hs
  unfold textOk
  change Calls _ _ _ _ (fun e w' => e = .returned (.bool (decide (s.size ≤ 16) && vT s)) ∧ _)
  have H1 := Lib.hid h1
  clear h1
  by_cases h : s.size ≤ 16
  · have e1 : (decide (s.size ≤ 16) && vT s) = vT s := by simp [h]
    rw [e1]
    clear e1
    go_enter Tryd.func33, Tryd.ntmps33
    go_wp2_with fail
    refine H1.out.mono ?_
    rintro e w1 ⟨rfl, hb1⟩
    go_wp2_with fail
    go_ret
    exact ⟨rfl, hb1⟩
  · have e1 : (decide (s.size ≤ 16) && vT s) = false := by simp [h]
    rw [e1]
    clear e1
    go_enter Tryd.func33, Tryd.ntmps33
    go_wp2_with fail
    go_ret
    exact ⟨rfl, Below.refl _ _⟩
set_option maxHeartbeats 1000000 in
set_option maxRecDepth 100000 in
theorem nameR_any (s : ByteArray) (w : World) (hs : s.size ≤ 4611686018427387904) :
    Calls Tryd.prog 32 #[.string s] w fun e w' => e = .returned (.bool (nameOk s)) ∧ Below w.heap.size w w' := by
  have h1 := noteR_any s w hs
  unfold nameOk
  have H1 := Lib.hid h1
  clear h1
  by_cases h : 0 < s.size
  · have e1 : (decide (0 < s.size) && textOk s) = textOk s := by simp [h]
    rw [e1]
    have hne : s.toList ≠ [] := by
      rw [ByteArray.toList_eq]; intro h0
      have := bl_len s
      rw [h0, List.length_nil] at this; omega
    have b1 : (!s.toList.isEmpty) = true := by cases hh : s.toList with | nil => exact absurd hh hne | cons a b => rfl
    clear e1 hne
    go_enter Tryd.func32, Tryd.ntmps32
    go_wp2_with fail
    refine H1.out.mono ?_
    rintro e w1 ⟨rfl, hb1⟩
    go_wp2_with fail
    go_ret
    exact ⟨rfl, hb1⟩
  · have e1 : (decide (0 < s.size) && textOk s) = false := by simp [h]
    rw [e1]
    obtain rfl : s = ByteArray.empty := ByteArray.size_eq_zero_iff.1 (by omega)
    clear e1
    go_enter Tryd.func32, Tryd.ntmps32
    go_wp2_with fail
    go_ret
    exact ⟨rfl, Below.refl _ _⟩


set_option maxHeartbeats 4000000 in
set_option maxRecDepth 100000 in
theorem checkR_any (n : NodeD) (w : World) (h0 : n.name.size ≤ 4611686018427387904) (h1 : n.zone.size ≤ 4611686018427387904) :
    Calls Tryd.prog 19 #[.agg #[.string n.name, .int .i64 n.room, .string n.zone]] w fun e w' => e = .returned (.int .i64 (nodeE n : Int)) ∧ Below w.heap.size w w' := by
  have hb0 : Below w.heap.size w (w.alloc (.cells #[Value.string n.name, Value.int .i64 n.room, Value.string n.zone] 35)) := (Below.refl _ _).alloc (Nat.le_refl _) _
  have bx0 := Blk.new w 35 #[Value.string n.name, Value.int .i64 n.room, Value.string n.zone]
  have c0 := fun w => nameR_any n.name w h0
  have c1 := fun w => noteR_any n.zone w h1
  have H0 := Lib.hid c0
  have H1 := Lib.hid c1
  clear c0 c1
  have hE : nodeE n = (if nameOk n.name && textOk n.zone then (if withinB n.room 0 1000000 then 0 else 1) else 4) := rfl
  have hwi : withinB n.room 0 1000000 = !(decide (n.room < 0) || decide (n.room > 1000000)) := by unfold withinB; rw [Bool.eq_iff_iff]; simp
  rw [hwi] at hE
  rw [hE]
  clear hE hwi
  obtain ⟨bo, hbo, HO⟩ : ∃ bo, (decide (n.room < 0) || decide (n.room > 1000000)) = bo ∧ Hid (∀ W : World, Calls Tryd.prog 34 #[.int .i64 n.room, .int .i64 0, .int .i64 1000000] W fun e w' => e = .returned (.bool bo) ∧ Below W.heap.size W w') := ⟨_, rfl, fun W => out_any n.room 0 1000000 W⟩
  rw [hbo]
  clear hbo
  generalize nameOk n.name = q0 at *
  generalize textOk n.zone = q1 at *
  cases q0
  · go_enter Tryd.func19, Tryd.ntmps19
    go_wp2_with fail
    generalize w.alloc _ = W at *
    have e0 : W.cell? ⟨w.heap.size, 0, none⟩ = some (.string n.name) := bx0.cell 0
    go_wp2_with (refine (H0.out _).mono ?_; rintro e w2 ⟨rfl, hb2⟩)
    go_ret
    exact ⟨rfl, hb0.trans (hb2.mono hb0.size)⟩
  cases q1
  · go_enter Tryd.func19, Tryd.ntmps19
    go_wp2_with fail
    generalize w.alloc _ = W at *
    have e0 : W.cell? ⟨w.heap.size, 0, none⟩ = some (.string n.name) := bx0.cell 0
    go_wp2_with fail
    refine (H0.out _).mono ?_
    rintro e w2 ⟨rfl, hb2⟩
    have bx2 := bx0.below hb2 bx0.lt
    have e2 : w2.cell? ⟨w.heap.size, 2, none⟩ = some (.string n.zone) := bx2.cell 2
    go_wp2_with fail
    refine (H1.out _).mono ?_
    rintro e w3 ⟨rfl, hb3⟩
    go_wp2_with fail
    go_ret
    have h2 := hb0.trans (hb2.mono hb0.size)
    exact ⟨rfl, h2.trans (hb3.mono h2.size)⟩
  · go_enter Tryd.func19, Tryd.ntmps19
    go_wp2_with fail
    generalize w.alloc _ = W at *
    have e0 : W.cell? ⟨w.heap.size, 0, none⟩ = some (.string n.name) := bx0.cell 0
    go_wp2_with fail
    refine (H0.out _).mono ?_
    rintro e w2 ⟨rfl, hb2⟩
    have bx2 := bx0.below hb2 bx0.lt
    have e2 : w2.cell? ⟨w.heap.size, 2, none⟩ = some (.string n.zone) := bx2.cell 2
    go_wp2_with fail
    refine (H1.out _).mono ?_
    rintro e w3 ⟨rfl, hb3⟩
    have bx3 := bx2.below hb3 bx2.lt
    have e3 : w3.cell? ⟨w.heap.size, 1, none⟩ = some (.int .i64 n.room) := bx3.cell 1
    have h2 := hb0.trans (hb2.mono hb0.size)
    have h3 := h2.trans (hb3.mono h2.size)
    cases bo
    · go_wp2_with (refine (HO.out _).mono ?_; rintro e w4 ⟨rfl, hb4⟩)
      go_ret
      exact ⟨rfl, h3.trans (hb4.mono h3.size)⟩
    · go_wp2_with (refine (HO.out _).mono ?_; rintro e w4 ⟨rfl, hb4⟩)
      go_ret
      exact ⟨rfl, h3.trans (hb4.mono h3.size)⟩
end Go.Proofs.YtnmokjgnbcfabaaDoor
