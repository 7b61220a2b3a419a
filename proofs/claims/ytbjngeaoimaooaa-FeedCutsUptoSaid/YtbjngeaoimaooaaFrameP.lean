/-
  Plain mathematics of frames.
-/
import Derived.Test.YtbjngeaoimaooaaPrimL
import Derived.Test.YtbjngeaoimaooaaCrcP
set_option linter.unusedVariables false
set_option linter.unusedSimpArgs false
namespace Go.Proofs.Ytbjngeaoimaooaa

def sum4 (x : Nat) : List UInt8 := [UInt8.ofNat (x / 16777216), UInt8.ofNat (x / 65536), UInt8.ofNat (x / 256), UInt8.ofNat x]
theorem sum4_length (x : Nat) : (sum4 x).length = 4 := rfl
theorem sum4_inj {x y : Nat} (hx : x < 4294967296) (hy : y < 4294967296) (h : sum4 x = sum4 y) : x = y := by
  simp only [sum4, List.cons.injEq, and_true] at h
  obtain ⟨h1, h2, h3, h4⟩ := h
  have e1 := congrArg UInt8.toNat h1
  have e2 := congrArg UInt8.toNat h2
  have e3 := congrArg UInt8.toNat h3
  have e4 := congrArg UInt8.toNat h4
  simp only [UInt8.toNat_ofNat'] at e1 e2 e3 e4
  omega

/-- What stands ahead of the sum. -/
def bodyF (v k : Nat) (pl : List UInt8) : List UInt8 := [66, 75, UInt8.ofNat v, UInt8.ofNat k] ++ putN pl.length ++ pl
def wireF (v k : Nat) (pl : List UInt8) : List UInt8 := bodyF v k pl ++ sum4 (crc (bodyF v k pl))
def goodF (v k : Int) : Prop := 1 ≤ v ∧ v ≤ 3 ∧ 1 ≤ k ∧ k ≤ 4
instance (v k : Int) : Decidable (goodF v k) := by unfold goodF; infer_instance
/-- Encode: the bytes, the error. -/
def encF (v k : Int) (pl : List UInt8) : List UInt8 × Nat :=
  if goodF v k then (if 6000 < pl.length then ([], 2) else (wireF v.toNat k.toNat pl, 0)) else ([], 1)

/-- The error of the byte at place i of the head. -/
def badAt (i : Nat) (c : UInt8) : Nat :=
  if i = 0 then (if c = 66 then 0 else 4) else if i = 1 then (if c = 75 then 0 else 4)
  else if i = 2 then (if 1 ≤ c.toNat ∧ c.toNat ≤ 3 then 0 else 1) else (if 1 ≤ c.toNat ∧ c.toNat ≤ 4 then 0 else 1)
def hdE : Nat → Nat → List UInt8 → Nat
  | 0, _, _ => 0
  | _ + 1, _, [] => 0
  | f + 1, i, c :: r => if badAt i c = 0 then hdE f (i + 1) r else badAt i c

structure DecR where
  e : Nat
  ver : Nat
  kind : Nat
  pl : List UInt8
  n : Nat
def DecR.err (e : Nat) : DecR := ⟨e, 0, 0, [], 0⟩
def decF (l : List UInt8) : DecR :=
  if hdE 4 0 l ≠ 0 then .err (hdE 4 0 l) else if l.length < 4 then .err 3 else
  if (rd (l.drop 4)).2.2 ≠ 0 then .err (rd (l.drop 4)).2.2 else if 6000 < (rd (l.drop 4)).1 then .err 2 else
  if l.length < 4 + (rd (l.drop 4)).2.1 + (rd (l.drop 4)).1 + 4 then .err 3 else
  if sum4 (crc (l.take (4 + (rd (l.drop 4)).2.1 + (rd (l.drop 4)).1))) ≠ (l.drop (4 + (rd (l.drop 4)).2.1 + (rd (l.drop 4)).1)).take 4 then .err 5 else
  ⟨0, (l.getD 2 0).toNat, (l.getD 3 0).toNat, (l.drop (4 + (rd (l.drop 4)).2.1)).take (rd (l.drop 4)).1, 4 + (rd (l.drop 4)).2.1 + (rd (l.drop 4)).1 + 4⟩
/-- The body as the code lays it: a concatenation. -/
def catF (v k : Nat) (pl : ByteArray) : ByteArray := (⟨#[66, 75]⟩ : ByteArray) ++ ⟨#[UInt8.ofNat v, UInt8.ofNat k]⟩ ++ ⟨(putN pl.size).toArray⟩ ++ pl
theorem catF_list (v k : Nat) (pl : ByteArray) : (catF v k pl).data.toList = bodyF v k pl.data.toList := by
  simp [catF, bodyF, ByteArray.data_append]
theorem catF_size (v k : Nat) (pl : ByteArray) : (catF v k pl).size = 4 + (putN pl.size).length + pl.size := by
  simp only [catF, ByteArray.size_append]
  rfl
end Go.Proofs.Ytbjngeaoimaooaa
