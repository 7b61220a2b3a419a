/-
  Plain: replies as bytes.
-/
import Derived.Test.YtnmokjgnbcfabaaNumR
set_option linter.unusedVariables false
set_option linter.unusedSimpArgs false
namespace Go.Proofs.Ytnmokjgnbcfabaa
open Go.RowKit
/-- May it be a reply? -/
def replyOk (c v : Int) : Bool := decide (0 ≤ c) && decide (c ≤ 10) && (decide (0 ≤ v) && decide (v ≤ 1099511627776))
theorem replyOk_iff {c v : Int} : replyOk c v = true ↔ (0 ≤ c ∧ c ≤ 10) ∧ 0 ≤ v ∧ v ≤ 1099511627776 := by
  unfold replyOk; simp only [Bool.and_eq_true, decide_eq_true_eq]
def encP (c v : Int) : List UInt8 := putN c.toNat ++ putN v.toNat
def pReply (l : List UInt8) : Res (Int × Int) := pSeq pInt (fun _ => pInt) l
theorem pReply_PP : PP pReply (fun x => encP x.1 x.2) (fun x => okNb x.1 ∧ okNb x.2) := pInt_PP.seq fun _ _ => pInt_PP
/-- What Reply answers. -/
def encPR (c v : Int) : List UInt8 × Nat := if replyOk c v = true then (encP c v, 0) else ([], 1)
/-- What ReadReply answers: code, revision, error. -/
def decPR (l : List UInt8) : Int × Int × Nat := match pReply l with
  | .bad e => (0, 0, e)
  | .ok x r => if r ≠ [] then (0, 0, 4) else if replyOk x.1 x.2 = true then (x.1, x.2, 0) else (0, 0, 1)
theorem replyOk_nb {c v : Int} (h : replyOk c v = true) : okNb c ∧ okNb v := by
  obtain ⟨⟨h1, h2⟩, h3, h4⟩ := replyOk_iff.1 h
  exact ⟨⟨h1, by omega⟩, h3, by omega⟩
theorem decPR_enc {c v : Int} (h : replyOk c v = true) : decPR (encP c v) = (c, v, 0) := by
  unfold decPR
  have := pReply_PP.fwd (c, v) [] (replyOk_nb h)
  rw [List.append_nil] at this
  rw [this]
  simp only []
  rw [if_neg (by simp), if_pos h]
theorem decPR_bad {l : List UInt8} (h : (decPR l).2.2 ≠ 0) : (decPR l).1 = 0 ∧ (decPR l).2.1 = 0 := by
  unfold decPR at h ⊢
  cases hp : pReply l with
  | bad e => exact ⟨rfl, rfl⟩
  | ok x r =>
    rw [hp] at h
    simp only [] at h ⊢
    split
    · exact ⟨rfl, rfl⟩
    · rename_i h1
      rw [if_neg h1] at h
      split
      · rename_i h2; rw [if_pos h2] at h; exact absurd rfl h
      · exact ⟨rfl, rfl⟩
theorem decPR_ok {l : List UInt8} (h : (decPR l).2.2 = 0) : encPR (decPR l).1 (decPR l).2.1 = (l, 0) := by
  unfold decPR at h ⊢
  cases hp : pReply l with
  | bad e => rw [hp] at h; exact absurd h (pReply_PP.err _ _ hp)
  | ok x r =>
    rw [hp] at h
    simp only [] at h ⊢
    by_cases h1 : r ≠ []
    · rw [if_pos h1] at h; cases h
    · rw [if_neg h1] at h ⊢
      by_cases h2 : replyOk x.1 x.2 = true
      · rw [if_pos h2]
        have hb := (pReply_PP.bwd _ _ _ hp).2
        have hr : r = [] := by simpa using h1
        rw [hr, List.append_nil] at hb
        unfold encPR
        rw [if_pos h2, hb]
      · rw [if_neg h2] at h; cases h
end Go.Proofs.Ytnmokjgnbcfabaa
