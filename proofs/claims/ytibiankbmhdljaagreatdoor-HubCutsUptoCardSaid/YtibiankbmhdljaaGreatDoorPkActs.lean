/-
  Several texts in one: ActO, QuietP.
-/
import Derived.Test.YtibiankbmhdljaaGreatDoorPkHubS
set_option linter.all false
set_option maxHeartbeats 16000000
set_option maxRecDepth 100000
namespace Go.Proofs.YtibiankbmhdljaaGreatDoor
open Go.Proofs.Tryz
open Go.RowKit Go.ChangeShapes Go.WideShapes Go.Deep Go.Joins
structure ActD where
 conn : Int
 bytes : ByteArray
def rowA (x : ActD) : List Value := [.int .i64 x.conn, .string x.bytes]
def datA {H : Type} (x : ActD) : DataW H := .agg [.lit (.int .i64 x.conn), .lit (.string x.bytes.data.toList)]
def okA (x : ActD) : Prop := i64B x.conn ∧ x.bytes.size <= 9223372036854775807
section
variable {H : Type} {enc : TypeId × Value -> H} {w : World} {base : Nat} {spare : Nat -> Bool} {held : Bool}
theorem elem_A (n : Nat) (cs : List Value) (d : DataW H) (pl : List MemPlace) (hl : cs.length = 2)
  (h : DataW.trod enc prog w base spare held n 75 cs = some (d, pl)) : ∃ x : ActD, cs = rowA x ∧ d = datA x ∧ okA x := by
 obtain ⟨ys, n', hd, hyl, hf⟩ := ukx underlying75 (by kernel_rfl) hl h
 obtain ⟨v0, y0, h0, g0, t0⟩ := hf 0 _ rfl
 obtain ⟨v1, y1, h1, g1, t1⟩ := hf 1 _ rfl
 obtain ⟨a, e0, rfl, wa⟩ := DataW.trod_int underlying3 t0
 obtain ⟨s, e1, rfl, ws⟩ := DataW.trod_string underlying9 t1
 simp at e0 e1; subst e0 e1
 match cs, hl, h0, h1 with
 | [c0, c1], _, h0, h1 =>
  simp at h0 h1; subst h0 h1
  match ys, hyl, g0, g1 with
  | [z0, z1], _, g0, g1 =>
   simp at g0 g1; subst g0 g1
   have ba := bounds_i64 wa
   unfold maxLen at ws
   exact ⟨⟨a, s⟩, rfl, by rw [hd]; rfl, ⟨ba.1, ba.2⟩, ws⟩
theorem open_acts {v : Value} {d : DataW H} {ps : List MemPlace} {r : Reach} {b0 : Nat} (hv : Value.okWide prog w r b0 67 v) (h : DataW.Trod enc prog w base spare held 67 v d ps) :
  ∃ (p : Option Addr) (c : Nat) (l : List ActD), v = .slice p l.length c ∧ Elts w w.heap.size 2 p (l.map rowA) ∧ (∀ x ∈ l, okA x) ∧ ((l = [] ∧ p = none ∧ c = 0 ∧ d = .nil) ∨ ∃ rest : List ActD, d = .slice (l.map datA) (rest.map datA)) := by
 obtain ⟨p, c, l, rfl, hlc, hcm, hel, hok, hd⟩ := uyg rowA datA okA 2 underlying67 (by kernel_rfl) (by decide) hv h (fun n cs d pl => elem_A n cs d pl)
 exact ⟨p, c, l, rfl, hel, hok, hd⟩
theorem open_req {v : Value} {d : DataW H} {ps : List MemPlace} {r : Reach} {b0 : Nat} (hv : Value.okWide prog w r b0 43 v) (h : DataW.Trod enc prog w base spare held 43 v d ps) :
  ∃ x : ReqD, v = .agg (rowQ x).toArray ∧ okQ x := by
 obtain ⟨cs, rfl, hcs⟩ := okWide_struct underlying43 hv
 obtain ⟨fuel, hf⟩ := h
 have hl : cs.toList.length = 14 := by rw [Array.length_toList, hcs]; kernel_rfl
 obtain ⟨x, hx, _, hk⟩ := vy6 fuel cs.toList d ps hl hf
 refine ⟨x, ?_, hk⟩
 obtain ⟨l⟩ := cs
 simp only at hx
 rw [hx]
end
def uzq (l : List ActD) : Nat := (l.map fun x => x.bytes.size).sum
theorem acts_bulk {H : Type} {l : List ActD} {p : Option Addr} {c : Nat} {d : DataW H} (hd : (l = [] ∧ p = none ∧ c = 0 ∧ d = .nil) ∨ ∃ rest : List ActD, d = .slice (l.map datA) (rest.map datA)) : uzq l + l.length <= Rows.uptoBulk d := by
 rcases hd with ⟨rfl, _⟩ | ⟨rest, rfl⟩
 ·simp [uzq]
 ·have h : ∀ l : List ActD, uzq l + l.length <= Rows.uptoBulkAll (l.map (datA (H := H))) := by
   intro l
   induction l with
   | nil => simp [uzq]
   | cons x r ih =>
    have h1 : uzq (x :: r) = x.bytes.size + uzq r := by simp [uzq]
    have h2 : x.bytes.data.toList.length = x.bytes.size := by simp
    simp only [List.map_cons, Rows.uptoBulkAll, datA, Rows.uptoBulk, List.length_cons]
    omega
  have := h l
  simp only [Rows.uptoBulk]
  omega
structure QI (h : HubD) (n : Nat) : Prop where
 v : SrvOk h.srv
 c : h.c 6 = newC
 w : ∀ i, i < n -> (h.c i).waits = []
theorem QI.less {h : HubD} {n m : Nat} (q : QI h n) (hm : m <= n) : QI h m := ⟨q.v, q.c, fun i hi => q.w i (by omega)⟩
theorem QI.new {s : St} (F : Fine s) : QI (newH s) 8 := ⟨uz8 F, rfl, fun _ _ => rfl⟩
theorem QI.flush {h : HubD} {n : Nat} (q : QI h n) (k : Nat) : QI (h.flush k) n := by
 refine ⟨q.v, ?_, fun i hi => ?_⟩
 ·by_cases hk : 6 = k
  ·subst hk; rw [uwi, q.c]; rfl
  ·rw [uk6 _ hk]; exact q.c
 ·by_cases hk : i = k
  ·subst hk; exact ujh _ _
  ·rw [uk6 _ hk]; exact q.w i hi
theorem QI.next {h : HubD} {n : Nat} (q : QI h n) : QI (h.flush n) (n + 1) := by
 have q1 := q.flush n
 refine ⟨q1.v, q1.c, fun i hi => ?_⟩
 by_cases hk : i = n
 ·subst hk; exact ujh _ _
 ·exact q1.w i (by omega)
theorem QI.send {h : HubD} {n : Nat} (q : QI h n) {k : Nat} (hk : k ≠ 6) (s : List UInt8) : QI (h.send k s) 0 := by
 refine ⟨vye q.v k s, ?_, fun i hi => absurd hi (Nat.not_lt_zero _)⟩
 rw [vv8 (fun e => hk e.symm) (by rw [q.c]; rfl)]
 exact q.c
theorem QI.len {h : HubD} (q : QI h 8) {i : Nat} (hi : i < 8) : h.len i = 0 := by
 unfold HubD.len
 rw [q.w i hi, uxn]
 rfl
theorem QI.bound {h : HubD} (q : QI h 8) (k : Nat) (s : List UInt8) (hs : s.length <= 1048576) (n i : Nat) (hi : i < 8) : (encs (((h.feed k s).frames k ((newF (h.c k).L s).take n)).c i).waits).length <= 140737488200000 := by
 have h1 := vw2 h k s n i
 have h2 := vjn (h.c k).L s
 rw [q.len hi] at h1
 have h3 := Nat.mul_le_mul_right 18054 (zrc h2 (by omega : s.length + 6020 <= 1054596))
 omega
theorem wj5 {l : List ActD} {x : ActD} (h : x ∈ l) : x.bytes.size <= uzq l := by
 unfold uzq
 induction l with
 | nil => cases h
 | cons y r ih =>
  rw [List.map_cons, List.sum_cons]
  rcases List.mem_cons.1 h with rfl | h
  ·omega
  ·have := ih h; omega
theorem wy6 {l : List ActD} {x : ActD} (h : x ∈ l) {b : Nat} (hb : uzq l + l.length <= b) : x.bytes.size <= b := by have := wj5 h; omega
theorem vjc : (prog.info? 75).map (·.size) = some 2 := by kernel_rfl
theorem uyo (W : World) : (zeroValue 75).run prog W = .ok (.agg #[.int .i64 0, .string .empty]) W := by kernel_rfl
theorem xx2 (a : Int) (s : ByteArray) : (#[.int .i64 a, .string s] : Array Value).all (·.oneCell') = true := by simp [Value.oneCell']
end Go.Proofs.YtibiankbmhdljaaGreatDoor
