/-
  Several texts in one: StP, StL, StW1, RowsH, StOk, AtP, RowsJ, RowsN, LeaseW, RowsL.
-/
import Derived.Test.YtaioadbenigdpaaGreatDoorPkBase
import Derived.Lib.ValidAsc
import Derived.Laws.Cover1
import Derived.IntWalk
set_option linter.unusedVariables false
set_option linter.unusedSimpArgs false
set_option maxHeartbeats 16000000
set_option maxRecDepth 100000
namespace Go.Proofs.YtaioadbenigdpaaGreatDoor
structure JobD where
 name : ByteArray
 prio : Int
 need : Int
 tries : Int
 tag : ByteArray
 deriving DecidableEq
structure NodeD where
 name : ByteArray
 room : Int
 zone : ByteArray
 deriving DecidableEq
structure LeaseD where
 job : ByteArray
 node : ByteArray
 till : Int
 deriving DecidableEq
structure St where
 rev : Int
 jobs : List JobD
 nodes : List NodeD
 leases : List LeaseD
 deriving DecidableEq
def rowJ (j : JobD) : List Value := [.string j.name, .int .i64 j.prio, .int .i64 j.need, .int .i64 j.tries, .string j.tag]
def rowN (n : NodeD) : List Value := [.string n.name, .int .i64 n.room, .string n.zone]
def rowL (l : LeaseD) : List Value := [.string l.job, .string l.node, .int .i64 l.till]
def withinB (n a b : Int) : Bool := decide (a ≤ n) && decide (n ≤ b)
theorem withinB_iff {n a b : Int} : withinB n a b = true ↔ a ≤ n ∧ n ≤ b := by simp [withinB]
def textOk (s : ByteArray) : Bool := decide (s.size ≤ 16) && Lib.validD s.data.toList
def nameOk (s : ByteArray) : Bool := decide (0 < s.size) && textOk s
def jobE (j : JobD) : Nat := if nameOk j.name && textOk j.tag then (if withinB j.prio (-1000) 1000 && withinB j.need 0 1000000 && withinB j.tries 0 100 then 0 else 1) else 4
def nodeE (n : NodeD) : Nat := if nameOk n.name && textOk n.zone then (if withinB n.room 0 1000000 then 0 else 1) else 4
def leS (a b : ByteArray) : Bool := Op.bytesLess a.toList b.toList || a.toList == b.toList
section
variable {α : Type} (key : α → ByteArray) (chk : α → Nat)
def badOrd : Option α → α → Bool
 | none, _ => false
 | some y, x => leS (key x) (key y)
def rowsE : Option α → List α → Nat
 | _, [] => 0
 | p, x :: r => if chk x ≠ 0 then chk x else if badOrd key p x = true then 8 else rowsE (some x) r
end
def prevOf {α : Type} (l : List α) : Nat → Option α
 | 0 => none
 | k + 1 => l[k]?
def jobAt (l : List JobD) (name : ByteArray) : Option JobD := l.find? fun j => decide (j.name = name)
def nodeAt (l : List NodeD) (name : ByteArray) : Option NodeD := l.find? fun n => decide (n.name = name)
def leaseE (jobs : List JobD) (nodes : List NodeD) (l : LeaseD) : Nat :=
 if (jobAt jobs l.job).isSome && (nodeAt nodes l.node).isSome then (if withinB l.till 0 1099511627776 then 0 else 1) else 6
def needOf (jobs : List JobD) (name : ByteArray) : Int := ((jobAt jobs name).map (·.need)).getD 0
def usedBy (jobs : List JobD) (node : ByteArray) : List LeaseD → Int
 | [] => 0
 | l :: r => (if l.node = node then needOf jobs l.job else 0) + usedBy jobs node r
def roomOk (s : St) : Bool := s.nodes.all fun n => decide (usedBy s.jobs n.name s.leases ≤ n.room)
def checkE (s : St) : Nat :=
 if withinB s.rev 0 1099511627776 = false then 1 else
 if 40 < s.jobs.length ∨ 40 < s.leases.length ∨ 20 < s.nodes.length then 2 else
 if rowsE JobD.name jobE none s.jobs ≠ 0 then rowsE JobD.name jobE none s.jobs else
 if rowsE NodeD.name nodeE none s.nodes ≠ 0 then rowsE NodeD.name nodeE none s.nodes else
 if rowsE LeaseD.job (leaseE s.jobs s.nodes) none s.leases ≠ 0 then rowsE LeaseD.job (leaseE s.jobs s.nodes) none s.leases else
 if roomOk s then 0 else 9
theorem bl_irrefl : ∀ a : List UInt8, Op.bytesLess a a = false
 | [] => rfl
 | x :: r => by
  simp only [Op.bytesLess, bl_irrefl r, Bool.and_false, Bool.or_false, decide_eq_false_iff_not]
  exact UInt8.lt_irrefl x
theorem bl_trans : ∀ a b c : List UInt8, Op.bytesLess a b = true → Op.bytesLess b c = true → Op.bytesLess a c = true
 | _, [], _, h, _ => by simp [Op.bytesLess] at h
 | _, _ :: _, [], _, h => by simp [Op.bytesLess] at h
 | [], _ :: _, _ :: _, _, _ => rfl
 | x :: a, y :: b, z :: c, h1, h2 => by
  simp only [Op.bytesLess, Bool.or_eq_true, decide_eq_true_eq, Bool.and_eq_true, beq_iff_eq] at h1 h2 ⊢
  rcases h1 with h1 | ⟨rfl, h1⟩
  ·rcases h2 with h2 | ⟨rfl, h2⟩
   ·exact .inl (UInt8.lt_trans h1 h2)
   ·exact .inl h1
  ·rcases h2 with h2 | ⟨rfl, h2⟩
   ·exact .inl h2
   ·exact .inr ⟨rfl, bl_trans a b c h1 h2⟩
theorem bl_total : ∀ a b : List UInt8, Op.bytesLess a b = true ∨ a = b ∨ Op.bytesLess b a = true
 | [], [] => .inr (.inl rfl)
 | [], _ :: _ => .inl rfl
 | _ :: _, [] => .inr (.inr rfl)
 | x :: a, y :: b => by
  simp only [Op.bytesLess, Bool.or_eq_true, decide_eq_true_eq, Bool.and_eq_true, beq_iff_eq, List.cons.injEq]
  rcases Nat.lt_trichotomy x.toNat y.toNat with h | h | h
  ·exact .inl (.inl (UInt8.lt_iff_toNat_lt.2 h))
  ·have h := UInt8.toNat_inj.1 h
   subst h
   rcases bl_total a b with h | h | h
   ·exact .inl (.inr ⟨rfl, h⟩)
   ·exact .inr (.inl ⟨rfl, h⟩)
   ·exact .inr (.inr (.inr ⟨rfl, h⟩))
  ·exact .inr (.inr (.inl (UInt8.lt_iff_toNat_lt.2 h)))
def ltS (a b : ByteArray) : Bool := Op.bytesLess a.toList b.toList
theorem ltS_irrefl (a : ByteArray) : ltS a a = false := bl_irrefl _
theorem ltS_trans {a b c : ByteArray} (h1 : ltS a b = true) (h2 : ltS b c = true) : ltS a c = true := bl_trans _ _ _ h1 h2
theorem toList_inj {a b : ByteArray} (h : a.toList = b.toList) : a = b := by
 rw [ByteArray.toList_eq, ByteArray.toList_eq] at h
 exact ByteArray.ext (Array.toList_inj.1 h)
theorem ltS_total (a b : ByteArray) : ltS a b = true ∨ a = b ∨ ltS b a = true := by
 rcases bl_total a.toList b.toList with h | h | h
 ·exact .inl h
 ·exact .inr (.inl (toList_inj h))
 ·exact .inr (.inr h)
theorem leS_iff {a b : ByteArray} : leS a b = false ↔ ltS b a = true := by
 unfold leS
 rw [Bool.or_eq_false_iff]
 constructor
 ·intro ⟨h1, h2⟩
  rcases ltS_total a b with h | h | h
  ·unfold ltS at h; rw [h1] at h; cases h
  ·rw [h] at h2; simp at h2
  ·exact h
 ·intro h
  refine ⟨?_, ?_⟩
  ·cases h1 : Op.bytesLess a.toList b.toList
   ·rfl
   ·have := ltS_trans (a := a) (b := b) (c := a) h1 h
    rw [ltS_irrefl] at this; cases this
  ·rw [beq_eq_false_iff_ne]
   intro h1
   have := toList_inj h1
   subst this
   rw [ltS_irrefl] at h; cases h
theorem ltS_ne {a b : ByteArray} (h : ltS a b = true) : a ≠ b := by rintro rfl; rw [ltS_irrefl] at h; cases h
def Sorted {α : Type} (key : α → ByteArray) (l : List α) : Prop := l.Pairwise fun x y => ltS (key x) (key y) = true
theorem rowsE_zero {α : Type} (key : α → ByteArray) (chk : α → Nat) : ∀ (l : List α) (p : Option α), rowsE key chk p l = 0 ↔ ((∀ x ∈ l, chk x = 0) ∧ Sorted key l ∧ ∀ y, p = some y → ∀ x ∈ l, ltS (key y) (key x) = true)
 | [], p => by simp [rowsE, Sorted]
 | x :: r, p => by
  have ih := rowsE_zero key chk r (some x)
  have hb : badOrd key p x = false ↔ ∀ y, p = some y → ltS (key y) (key x) = true := by
   cases p with
   | none => simp [badOrd]
   | some y => simp only [badOrd, leS_iff, Option.some.injEq, forall_eq']
  unfold rowsE
  by_cases hc : chk x = 0
  ·rw [if_neg (by simp [hc])]
   cases ho : badOrd key p x
   ·rw [if_neg (by simp), ih]
    have hb' := hb.1 ho
    constructor
    ·intro ⟨h1, h2, h3⟩
     refine ⟨?_, ?_, ?_⟩
     ·intro z hz
      rcases List.mem_cons.1 hz with rfl | hz
      ·exact hc
      ·exact h1 z hz
     ·exact List.pairwise_cons.2 ⟨fun z hz => h3 x rfl z hz, h2⟩
     ·intro y hy z hz
      rcases List.mem_cons.1 hz with rfl | hz
      ·exact hb' y hy
      ·exact ltS_trans (hb' y hy) (h3 x rfl z hz)
    ·intro ⟨h1, h2, h3⟩
     obtain ⟨h4, h5⟩ := List.pairwise_cons.1 h2
     exact ⟨fun z hz => h1 z (List.mem_cons_of_mem _ hz), h5, fun y hy z hz => by injection hy with hy; subst hy; exact h4 z hz⟩
   ·rw [if_pos rfl]
    constructor
    ·intro h; cases h
    ·intro ⟨_, _, h3⟩
     have := hb.2 (fun y hy => h3 y hy x List.mem_cons_self)
     rw [ho] at this; cases this
  ·rw [if_pos hc]
   constructor
   ·intro h; exact absurd h hc
   ·intro ⟨h1, _⟩; exact absurd (h1 x List.mem_cons_self) hc
theorem rowsE_ok {α : Type} {key : α → ByteArray} {chk : α → Nat} {l : List α} : rowsE key chk none l = 0 ↔ (∀ x ∈ l, chk x = 0) ∧ Sorted key l := by
 rw [rowsE_zero]
 simp
theorem jobAt_none {l : List JobD} {nm : ByteArray} (h : ∀ x ∈ l, x.name ≠ nm) : jobAt l nm = none := by
 unfold jobAt
 rw [List.find?_eq_none]
 intro x hx
 simpa using h x hx
theorem nodeAt_none {l : List NodeD} {nm : ByteArray} (h : ∀ x ∈ l, x.name ≠ nm) : nodeAt l nm = none := by
 unfold nodeAt
 rw [List.find?_eq_none]
 intro x hx
 simpa using h x hx
theorem sorted_before {α : Type} {key : α → ByteArray} {l : List α} (h : Sorted key l) {k : Nat} {x : α} (hx : l[k]? = some x) : ∀ y ∈ l.take k, key y ≠ key x := by
 intro y hy
 obtain ⟨i, hi, rfl⟩ := List.mem_iff_getElem.1 hy
 rw [List.length_take] at hi
 obtain ⟨hk, rfl⟩ := List.getElem?_eq_some_iff.1 hx
 rw [List.getElem_take]
 exact ltS_ne (List.pairwise_iff_getElem.1 h i k (by omega) hk (by omega))
theorem jobE_need {j : JobD} (h : jobE j = 0) : 0 ≤ j.need ∧ j.need ≤ 1000000 := by
 unfold jobE at h
 split at h
 ·split at h
  ·rename_i h2
   simp only [Bool.and_eq_true, withinB_iff] at h2
   exact h2.1.2
  ·cases h
 ·cases h
theorem needOf_bd {jobs : List JobD} (h : ∀ j ∈ jobs, jobE j = 0) (nm : ByteArray) : 0 ≤ needOf jobs nm ∧ needOf jobs nm ≤ 1000000 := by
 unfold needOf
 cases hj : jobAt jobs nm with
 | none => simp
 | some j => exact jobE_need (h j (List.mem_of_find?_eq_some hj))
open Go.RowKit
theorem within_any (x a b : Int) (w : World) :
  Calls Tryz.prog 56 #[.int .i64 x, .int .i64 a, .int .i64 b] w fun e w' => e = .returned (.bool (withinB x a b)) ∧ w = w' := by
 unfold withinB
 by_cases h1 : a ≤ x
 ·go_enter Tryz.func56, Tryz.ntmps56
  go_wp2_with fail
  go_ret
  exact ⟨congrArg (fun b => Ending.returned (.bool b)) (by simp [h1]), rfl⟩
 ·have h1' : x < a := by omega
  go_enter Tryz.func56, Tryz.ntmps56
  go_wp2_with fail
  all_goals go_ret
  all_goals exact ⟨congrArg (fun b => Ending.returned (.bool b)) (by simp; omega), rfl⟩
theorem isText_any (s : ByteArray) (w : World) (hs : s.size ≤ 9223372036854775807) (hT : Tabs w) :
  Calls Tryz.prog 98 #[.string s] w fun e w' => e = .returned (.bool (textOk s)) ∧ Below w.heap.size w w' := by
 have h1 := valid_any s w hs hT
 unfold textOk
 change Calls _ _ _ _ (fun e w' => e = .returned (.bool (decide (s.size ≤ 16) && vT s)) ∧ _)
 have H1 := Lib.hid h1
 clear h1
 by_cases h : s.size ≤ 16
 ·have e1 : (decide (s.size ≤ 16) && vT s) = vT s := by simp [h]
  rw [e1]
  clear e1
  go_enter Tryz.func98, Tryz.ntmps98
  go_wp2_with fail
  refine H1.out.mono ?_
  rintro e w1 ⟨rfl, hb1⟩
  go_wp2_with fail
  go_ret
  exact ⟨rfl, hb1⟩
 ·have e1 : (decide (s.size ≤ 16) && vT s) = false := by simp [h]
  rw [e1]
  clear e1
  go_enter Tryz.func98, Tryz.ntmps98
  go_wp2_with fail
  go_ret
  exact ⟨rfl, Below.refl _ _⟩
theorem isName_any (s : ByteArray) (w : World) (hs : s.size ≤ 9223372036854775807) (hT : Tabs w) :
  Calls Tryz.prog 97 #[.string s] w fun e w' => e = .returned (.bool (nameOk s)) ∧ Below w.heap.size w w' := by
 have h1 := isText_any s w hs hT
 unfold nameOk
 have H1 := Lib.hid h1
 clear h1
 by_cases h : 0 < s.size
 ·have e1 : (decide (0 < s.size) && textOk s) = textOk s := by simp [h]
  rw [e1]
  have hne : s.toList ≠ [] := by
   rw [ByteArray.toList_eq]; intro h0
   have := bl_len s
   rw [h0, List.length_nil] at this; omega
  have b1 : (!s.toList.isEmpty) = true := by cases hh : s.toList with | nil => exact absurd hh hne | cons a b => rfl
  clear e1 hne
  go_enter Tryz.func97, Tryz.ntmps97
  go_wp2_with fail
  refine H1.out.mono ?_
  rintro e w1 ⟨rfl, hb1⟩
  go_wp2_with fail
  go_ret
  exact ⟨rfl, hb1⟩
 ·have e1 : (decide (0 < s.size) && textOk s) = false := by simp [h]
  rw [e1]
  obtain rfl : s = ByteArray.empty := ByteArray.size_eq_zero_iff.1 (by omega)
  clear e1
  go_enter Tryz.func97, Tryz.ntmps97
  go_wp2_with fail
  go_ret
  exact ⟨rfl, Below.refl _ _⟩
theorem checkJob_any (j : JobD) (w : World) (h0 : j.name.size ≤ 9223372036854775807) (h1 : j.tag.size ≤ 9223372036854775807) (hT : Tabs w) :
  Calls Tryz.prog 58 #[.agg #[.string j.name, .int .i64 j.prio, .int .i64 j.need, .int .i64 j.tries, .string j.tag]] w fun e w' => e = .returned (.int .i64 (jobE j : Int)) ∧ Below w.heap.size w w' := by
 have hb0 : Below w.heap.size w (w.alloc (.cells #[.string j.name, .int .i64 j.prio, .int .i64 j.need, .int .i64 j.tries, .string j.tag] 31)) := (Below.refl _ _).alloc (Nat.le_refl _) _
 have hT0 := hT.below hb0
 have bx0 := Blk.new w 31 #[.string j.name, .int .i64 j.prio, .int .i64 j.need, .int .i64 j.tries, .string j.tag]
 have c0 := fun w hT => isName_any j.name w h0 hT
 have c1 := fun w hT => isText_any j.tag w h1 hT
 have c2 := fun w => within_any j.prio (-1000) 1000 w
 have c3 := fun w => within_any j.need 0 1000000 w
 have c4 := fun w => within_any j.tries 0 100 w
 cases q0 : nameOk j.name
 ·rw [q0] at c0
  have hE : jobE j = 4 := by simp [jobE, q0]
  rw [hE]
  have H0 := Lib.hid c0
  have H1 := Lib.hid c1
  have H2 := Lib.hid c2
  have H3 := Lib.hid c3
  have H4 := Lib.hid c4
  clear hE c0 c1 c2 c3 c4 q0
  go_enter Tryz.func58, Tryz.ntmps58
  go_wp2_with fail
  refine (H0.out _ hT0).mono ?_
  rintro e w1 ⟨rfl, hb1⟩
  have hT1 := hT0.below hb1
  have hB1 := bthen hb0 hb1
  have bx1 := bx0.below hb1 bx0.lt
  have c1_0 : w1.cell? ⟨w.heap.size, 0, none⟩ = some (Value.string j.name) := bx1.cell 0
  have c1_1 : w1.cell? ⟨w.heap.size, 1, none⟩ = some (Value.int .i64 j.prio) := bx1.cell 1
  have c1_2 : w1.cell? ⟨w.heap.size, 2, none⟩ = some (Value.int .i64 j.need) := bx1.cell 2
  have c1_3 : w1.cell? ⟨w.heap.size, 3, none⟩ = some (Value.int .i64 j.tries) := bx1.cell 3
  have c1_4 : w1.cell? ⟨w.heap.size, 4, none⟩ = some (Value.string j.tag) := bx1.cell 4
  go_wp2_with fail
  go_ret
  exact ⟨rfl, hB1⟩
 ·rw [q0] at c0
  cases q1 : textOk j.tag
  ·rw [q1] at c1
   have hE : jobE j = 4 := by simp [jobE, q0, q1]
   rw [hE]
   have H0 := Lib.hid c0
   have H1 := Lib.hid c1
   have H2 := Lib.hid c2
   have H3 := Lib.hid c3
   have H4 := Lib.hid c4
   clear hE c0 c1 c2 c3 c4 q0 q1
   go_enter Tryz.func58, Tryz.ntmps58
   go_wp2_with fail
   refine (H0.out _ hT0).mono ?_
   rintro e w1 ⟨rfl, hb1⟩
   have hT1 := hT0.below hb1
   have hB1 := bthen hb0 hb1
   have bx1 := bx0.below hb1 bx0.lt
   have c1_0 : w1.cell? ⟨w.heap.size, 0, none⟩ = some (Value.string j.name) := bx1.cell 0
   have c1_1 : w1.cell? ⟨w.heap.size, 1, none⟩ = some (Value.int .i64 j.prio) := bx1.cell 1
   have c1_2 : w1.cell? ⟨w.heap.size, 2, none⟩ = some (Value.int .i64 j.need) := bx1.cell 2
   have c1_3 : w1.cell? ⟨w.heap.size, 3, none⟩ = some (Value.int .i64 j.tries) := bx1.cell 3
   have c1_4 : w1.cell? ⟨w.heap.size, 4, none⟩ = some (Value.string j.tag) := bx1.cell 4
   go_wp2_with fail
   refine (H1.out _ hT1).mono ?_
   rintro e w2 ⟨rfl, hb2⟩
   have hT2 := hT1.below hb2
   have hB2 := bthen hB1 hb2
   have bx2 := bx1.below hb2 bx1.lt
   have c2_0 : w2.cell? ⟨w.heap.size, 0, none⟩ = some (Value.string j.name) := bx2.cell 0
   have c2_1 : w2.cell? ⟨w.heap.size, 1, none⟩ = some (Value.int .i64 j.prio) := bx2.cell 1
   have c2_2 : w2.cell? ⟨w.heap.size, 2, none⟩ = some (Value.int .i64 j.need) := bx2.cell 2
   have c2_3 : w2.cell? ⟨w.heap.size, 3, none⟩ = some (Value.int .i64 j.tries) := bx2.cell 3
   have c2_4 : w2.cell? ⟨w.heap.size, 4, none⟩ = some (Value.string j.tag) := bx2.cell 4
   go_wp2_with fail
   go_ret
   exact ⟨rfl, hB2⟩
  ·rw [q1] at c1
   cases q2 : withinB j.prio (-1000) 1000
   ·rw [q2] at c2
    have hE : jobE j = 1 := by simp [jobE, q0, q1, q2]
    rw [hE]
    have H0 := Lib.hid c0
    have H1 := Lib.hid c1
    have H2 := Lib.hid c2
    have H3 := Lib.hid c3
    have H4 := Lib.hid c4
    clear hE c0 c1 c2 c3 c4 q0 q1 q2
    go_enter Tryz.func58, Tryz.ntmps58
    go_wp2_with fail
    refine (H0.out _ hT0).mono ?_
    rintro e w1 ⟨rfl, hb1⟩
    have hT1 := hT0.below hb1
    have hB1 := bthen hb0 hb1
    have bx1 := bx0.below hb1 bx0.lt
    have c1_0 : w1.cell? ⟨w.heap.size, 0, none⟩ = some (Value.string j.name) := bx1.cell 0
    have c1_1 : w1.cell? ⟨w.heap.size, 1, none⟩ = some (Value.int .i64 j.prio) := bx1.cell 1
    have c1_2 : w1.cell? ⟨w.heap.size, 2, none⟩ = some (Value.int .i64 j.need) := bx1.cell 2
    have c1_3 : w1.cell? ⟨w.heap.size, 3, none⟩ = some (Value.int .i64 j.tries) := bx1.cell 3
    have c1_4 : w1.cell? ⟨w.heap.size, 4, none⟩ = some (Value.string j.tag) := bx1.cell 4
    go_wp2_with fail
    refine (H1.out _ hT1).mono ?_
    rintro e w2 ⟨rfl, hb2⟩
    have hT2 := hT1.below hb2
    have hB2 := bthen hB1 hb2
    have bx2 := bx1.below hb2 bx1.lt
    have c2_0 : w2.cell? ⟨w.heap.size, 0, none⟩ = some (Value.string j.name) := bx2.cell 0
    have c2_1 : w2.cell? ⟨w.heap.size, 1, none⟩ = some (Value.int .i64 j.prio) := bx2.cell 1
    have c2_2 : w2.cell? ⟨w.heap.size, 2, none⟩ = some (Value.int .i64 j.need) := bx2.cell 2
    have c2_3 : w2.cell? ⟨w.heap.size, 3, none⟩ = some (Value.int .i64 j.tries) := bx2.cell 3
    have c2_4 : w2.cell? ⟨w.heap.size, 4, none⟩ = some (Value.string j.tag) := bx2.cell 4
    go_wp2_with fail
    refine (H2.out _).mono ?_
    rintro e w9 ⟨rfl, rfl⟩
    go_wp2_with fail
    go_ret
    exact ⟨rfl, hB2⟩
   ·rw [q2] at c2
    cases q3 : withinB j.need 0 1000000
    ·rw [q3] at c3
     have hE : jobE j = 1 := by simp [jobE, q0, q1, q2, q3]
     rw [hE]
     have H0 := Lib.hid c0
     have H1 := Lib.hid c1
     have H2 := Lib.hid c2
     have H3 := Lib.hid c3
     have H4 := Lib.hid c4
     clear hE c0 c1 c2 c3 c4 q0 q1 q2 q3
     go_enter Tryz.func58, Tryz.ntmps58
     go_wp2_with fail
     refine (H0.out _ hT0).mono ?_
     rintro e w1 ⟨rfl, hb1⟩
     have hT1 := hT0.below hb1
     have hB1 := bthen hb0 hb1
     have bx1 := bx0.below hb1 bx0.lt
     have c1_0 : w1.cell? ⟨w.heap.size, 0, none⟩ = some (Value.string j.name) := bx1.cell 0
     have c1_1 : w1.cell? ⟨w.heap.size, 1, none⟩ = some (Value.int .i64 j.prio) := bx1.cell 1
     have c1_2 : w1.cell? ⟨w.heap.size, 2, none⟩ = some (Value.int .i64 j.need) := bx1.cell 2
     have c1_3 : w1.cell? ⟨w.heap.size, 3, none⟩ = some (Value.int .i64 j.tries) := bx1.cell 3
     have c1_4 : w1.cell? ⟨w.heap.size, 4, none⟩ = some (Value.string j.tag) := bx1.cell 4
     go_wp2_with fail
     refine (H1.out _ hT1).mono ?_
     rintro e w2 ⟨rfl, hb2⟩
     have hT2 := hT1.below hb2
     have hB2 := bthen hB1 hb2
     have bx2 := bx1.below hb2 bx1.lt
     have c2_0 : w2.cell? ⟨w.heap.size, 0, none⟩ = some (Value.string j.name) := bx2.cell 0
     have c2_1 : w2.cell? ⟨w.heap.size, 1, none⟩ = some (Value.int .i64 j.prio) := bx2.cell 1
     have c2_2 : w2.cell? ⟨w.heap.size, 2, none⟩ = some (Value.int .i64 j.need) := bx2.cell 2
     have c2_3 : w2.cell? ⟨w.heap.size, 3, none⟩ = some (Value.int .i64 j.tries) := bx2.cell 3
     have c2_4 : w2.cell? ⟨w.heap.size, 4, none⟩ = some (Value.string j.tag) := bx2.cell 4
     go_wp2_with fail
     refine (H2.out _).mono ?_
     rintro e w9 ⟨rfl, rfl⟩
     go_wp2_with fail
     refine (H3.out _).mono ?_
     rintro e w9 ⟨rfl, rfl⟩
     go_wp2_with fail
     go_ret
     exact ⟨rfl, hB2⟩
    ·rw [q3] at c3
     cases q4 : withinB j.tries 0 100
     ·rw [q4] at c4
      have hE : jobE j = 1 := by simp [jobE, q0, q1, q2, q3, q4]
      rw [hE]
      have H0 := Lib.hid c0
      have H1 := Lib.hid c1
      have H2 := Lib.hid c2
      have H3 := Lib.hid c3
      have H4 := Lib.hid c4
      clear hE c0 c1 c2 c3 c4 q0 q1 q2 q3 q4
      go_enter Tryz.func58, Tryz.ntmps58
      go_wp2_with fail
      refine (H0.out _ hT0).mono ?_
      rintro e w1 ⟨rfl, hb1⟩
      have hT1 := hT0.below hb1
      have hB1 := bthen hb0 hb1
      have bx1 := bx0.below hb1 bx0.lt
      have c1_0 : w1.cell? ⟨w.heap.size, 0, none⟩ = some (Value.string j.name) := bx1.cell 0
      have c1_1 : w1.cell? ⟨w.heap.size, 1, none⟩ = some (Value.int .i64 j.prio) := bx1.cell 1
      have c1_2 : w1.cell? ⟨w.heap.size, 2, none⟩ = some (Value.int .i64 j.need) := bx1.cell 2
      have c1_3 : w1.cell? ⟨w.heap.size, 3, none⟩ = some (Value.int .i64 j.tries) := bx1.cell 3
      have c1_4 : w1.cell? ⟨w.heap.size, 4, none⟩ = some (Value.string j.tag) := bx1.cell 4
      go_wp2_with fail
      refine (H1.out _ hT1).mono ?_
      rintro e w2 ⟨rfl, hb2⟩
      have hT2 := hT1.below hb2
      have hB2 := bthen hB1 hb2
      have bx2 := bx1.below hb2 bx1.lt
      have c2_0 : w2.cell? ⟨w.heap.size, 0, none⟩ = some (Value.string j.name) := bx2.cell 0
      have c2_1 : w2.cell? ⟨w.heap.size, 1, none⟩ = some (Value.int .i64 j.prio) := bx2.cell 1
      have c2_2 : w2.cell? ⟨w.heap.size, 2, none⟩ = some (Value.int .i64 j.need) := bx2.cell 2
      have c2_3 : w2.cell? ⟨w.heap.size, 3, none⟩ = some (Value.int .i64 j.tries) := bx2.cell 3
      have c2_4 : w2.cell? ⟨w.heap.size, 4, none⟩ = some (Value.string j.tag) := bx2.cell 4
      go_wp2_with fail
      refine (H2.out _).mono ?_
      rintro e w9 ⟨rfl, rfl⟩
      go_wp2_with fail
      refine (H3.out _).mono ?_
      rintro e w9 ⟨rfl, rfl⟩
      go_wp2_with fail
      refine (H4.out _).mono ?_
      rintro e w9 ⟨rfl, rfl⟩
      go_wp2_with fail
      go_ret
      exact ⟨rfl, hB2⟩
     ·rw [q4] at c4
      have hE : jobE j = 0 := by simp [jobE, q0, q1, q2, q3, q4]
      rw [hE]
      have H0 := Lib.hid c0
      have H1 := Lib.hid c1
      have H2 := Lib.hid c2
      have H3 := Lib.hid c3
      have H4 := Lib.hid c4
      clear hE c0 c1 c2 c3 c4 q0 q1 q2 q3 q4
      go_enter Tryz.func58, Tryz.ntmps58
      go_wp2_with fail
      refine (H0.out _ hT0).mono ?_
      rintro e w1 ⟨rfl, hb1⟩
      have hT1 := hT0.below hb1
      have hB1 := bthen hb0 hb1
      have bx1 := bx0.below hb1 bx0.lt
      have c1_0 : w1.cell? ⟨w.heap.size, 0, none⟩ = some (Value.string j.name) := bx1.cell 0
      have c1_1 : w1.cell? ⟨w.heap.size, 1, none⟩ = some (Value.int .i64 j.prio) := bx1.cell 1
      have c1_2 : w1.cell? ⟨w.heap.size, 2, none⟩ = some (Value.int .i64 j.need) := bx1.cell 2
      have c1_3 : w1.cell? ⟨w.heap.size, 3, none⟩ = some (Value.int .i64 j.tries) := bx1.cell 3
      have c1_4 : w1.cell? ⟨w.heap.size, 4, none⟩ = some (Value.string j.tag) := bx1.cell 4
      go_wp2_with fail
      refine (H1.out _ hT1).mono ?_
      rintro e w2 ⟨rfl, hb2⟩
      have hT2 := hT1.below hb2
      have hB2 := bthen hB1 hb2
      have bx2 := bx1.below hb2 bx1.lt
      have c2_0 : w2.cell? ⟨w.heap.size, 0, none⟩ = some (Value.string j.name) := bx2.cell 0
      have c2_1 : w2.cell? ⟨w.heap.size, 1, none⟩ = some (Value.int .i64 j.prio) := bx2.cell 1
      have c2_2 : w2.cell? ⟨w.heap.size, 2, none⟩ = some (Value.int .i64 j.need) := bx2.cell 2
      have c2_3 : w2.cell? ⟨w.heap.size, 3, none⟩ = some (Value.int .i64 j.tries) := bx2.cell 3
      have c2_4 : w2.cell? ⟨w.heap.size, 4, none⟩ = some (Value.string j.tag) := bx2.cell 4
      go_wp2_with fail
      refine (H2.out _).mono ?_
      rintro e w9 ⟨rfl, rfl⟩
      go_wp2_with fail
      refine (H3.out _).mono ?_
      rintro e w9 ⟨rfl, rfl⟩
      go_wp2_with fail
      refine (H4.out _).mono ?_
      rintro e w9 ⟨rfl, rfl⟩
      go_wp2_with fail
      go_ret
      exact ⟨rfl, hB2⟩
theorem checkNode_any (n : NodeD) (w : World) (h0 : n.name.size ≤ 9223372036854775807) (h1 : n.zone.size ≤ 9223372036854775807) (hT : Tabs w) :
  Calls Tryz.prog 60 #[.agg #[.string n.name, .int .i64 n.room, .string n.zone]] w fun e w' => e = .returned (.int .i64 (nodeE n : Int)) ∧ Below w.heap.size w w' := by
 have hb0 : Below w.heap.size w (w.alloc (.cells #[.string n.name, .int .i64 n.room, .string n.zone] 34)) := (Below.refl _ _).alloc (Nat.le_refl _) _
 have hT0 := hT.below hb0
 have bx0 := Blk.new w 34 #[.string n.name, .int .i64 n.room, .string n.zone]
 have c0 := fun w hT => isName_any n.name w h0 hT
 have c1 := fun w hT => isText_any n.zone w h1 hT
 have c2 := fun w => within_any n.room 0 1000000 w
 cases q0 : nameOk n.name
 ·rw [q0] at c0
  have hE : nodeE n = 4 := by simp [nodeE, q0]
  rw [hE]
  have H0 := Lib.hid c0
  have H1 := Lib.hid c1
  have H2 := Lib.hid c2
  clear hE c0 c1 c2 q0
  go_enter Tryz.func60, Tryz.ntmps60
  go_wp2_with fail
  refine (H0.out _ hT0).mono ?_
  rintro e w1 ⟨rfl, hb1⟩
  have hT1 := hT0.below hb1
  have hB1 := bthen hb0 hb1
  have bx1 := bx0.below hb1 bx0.lt
  have c1_0 : w1.cell? ⟨w.heap.size, 0, none⟩ = some (Value.string n.name) := bx1.cell 0
  have c1_1 : w1.cell? ⟨w.heap.size, 1, none⟩ = some (Value.int .i64 n.room) := bx1.cell 1
  have c1_2 : w1.cell? ⟨w.heap.size, 2, none⟩ = some (Value.string n.zone) := bx1.cell 2
  go_wp2_with fail
  go_ret
  exact ⟨rfl, hB1⟩
 ·rw [q0] at c0
  cases q1 : textOk n.zone
  ·rw [q1] at c1
   have hE : nodeE n = 4 := by simp [nodeE, q0, q1]
   rw [hE]
   have H0 := Lib.hid c0
   have H1 := Lib.hid c1
   have H2 := Lib.hid c2
   clear hE c0 c1 c2 q0 q1
   go_enter Tryz.func60, Tryz.ntmps60
   go_wp2_with fail
   refine (H0.out _ hT0).mono ?_
   rintro e w1 ⟨rfl, hb1⟩
   have hT1 := hT0.below hb1
   have hB1 := bthen hb0 hb1
   have bx1 := bx0.below hb1 bx0.lt
   have c1_0 : w1.cell? ⟨w.heap.size, 0, none⟩ = some (Value.string n.name) := bx1.cell 0
   have c1_1 : w1.cell? ⟨w.heap.size, 1, none⟩ = some (Value.int .i64 n.room) := bx1.cell 1
   have c1_2 : w1.cell? ⟨w.heap.size, 2, none⟩ = some (Value.string n.zone) := bx1.cell 2
   go_wp2_with fail
   refine (H1.out _ hT1).mono ?_
   rintro e w2 ⟨rfl, hb2⟩
   have hT2 := hT1.below hb2
   have hB2 := bthen hB1 hb2
   have bx2 := bx1.below hb2 bx1.lt
   have c2_0 : w2.cell? ⟨w.heap.size, 0, none⟩ = some (Value.string n.name) := bx2.cell 0
   have c2_1 : w2.cell? ⟨w.heap.size, 1, none⟩ = some (Value.int .i64 n.room) := bx2.cell 1
   have c2_2 : w2.cell? ⟨w.heap.size, 2, none⟩ = some (Value.string n.zone) := bx2.cell 2
   go_wp2_with fail
   go_ret
   exact ⟨rfl, hB2⟩
  ·rw [q1] at c1
   cases q2 : withinB n.room 0 1000000
   ·rw [q2] at c2
    have hE : nodeE n = 1 := by simp [nodeE, q0, q1, q2]
    rw [hE]
    have H0 := Lib.hid c0
    have H1 := Lib.hid c1
    have H2 := Lib.hid c2
    clear hE c0 c1 c2 q0 q1 q2
    go_enter Tryz.func60, Tryz.ntmps60
    go_wp2_with fail
    refine (H0.out _ hT0).mono ?_
    rintro e w1 ⟨rfl, hb1⟩
    have hT1 := hT0.below hb1
    have hB1 := bthen hb0 hb1
    have bx1 := bx0.below hb1 bx0.lt
    have c1_0 : w1.cell? ⟨w.heap.size, 0, none⟩ = some (Value.string n.name) := bx1.cell 0
    have c1_1 : w1.cell? ⟨w.heap.size, 1, none⟩ = some (Value.int .i64 n.room) := bx1.cell 1
    have c1_2 : w1.cell? ⟨w.heap.size, 2, none⟩ = some (Value.string n.zone) := bx1.cell 2
    go_wp2_with fail
    refine (H1.out _ hT1).mono ?_
    rintro e w2 ⟨rfl, hb2⟩
    have hT2 := hT1.below hb2
    have hB2 := bthen hB1 hb2
    have bx2 := bx1.below hb2 bx1.lt
    have c2_0 : w2.cell? ⟨w.heap.size, 0, none⟩ = some (Value.string n.name) := bx2.cell 0
    have c2_1 : w2.cell? ⟨w.heap.size, 1, none⟩ = some (Value.int .i64 n.room) := bx2.cell 1
    have c2_2 : w2.cell? ⟨w.heap.size, 2, none⟩ = some (Value.string n.zone) := bx2.cell 2
    go_wp2_with fail
    refine (H2.out _).mono ?_
    rintro e w9 ⟨rfl, rfl⟩
    go_wp2_with fail
    go_ret
    exact ⟨rfl, hB2⟩
   ·rw [q2] at c2
    have hE : nodeE n = 0 := by simp [nodeE, q0, q1, q2]
    rw [hE]
    have H0 := Lib.hid c0
    have H1 := Lib.hid c1
    have H2 := Lib.hid c2
    clear hE c0 c1 c2 q0 q1 q2
    go_enter Tryz.func60, Tryz.ntmps60
    go_wp2_with fail
    refine (H0.out _ hT0).mono ?_
    rintro e w1 ⟨rfl, hb1⟩
    have hT1 := hT0.below hb1
    have hB1 := bthen hb0 hb1
    have bx1 := bx0.below hb1 bx0.lt
    have c1_0 : w1.cell? ⟨w.heap.size, 0, none⟩ = some (Value.string n.name) := bx1.cell 0
    have c1_1 : w1.cell? ⟨w.heap.size, 1, none⟩ = some (Value.int .i64 n.room) := bx1.cell 1
    have c1_2 : w1.cell? ⟨w.heap.size, 2, none⟩ = some (Value.string n.zone) := bx1.cell 2
    go_wp2_with fail
    refine (H1.out _ hT1).mono ?_
    rintro e w2 ⟨rfl, hb2⟩
    have hT2 := hT1.below hb2
    have hB2 := bthen hB1 hb2
    have bx2 := bx1.below hb2 bx1.lt
    have c2_0 : w2.cell? ⟨w.heap.size, 0, none⟩ = some (Value.string n.name) := bx2.cell 0
    have c2_1 : w2.cell? ⟨w.heap.size, 1, none⟩ = some (Value.int .i64 n.room) := bx2.cell 1
    have c2_2 : w2.cell? ⟨w.heap.size, 2, none⟩ = some (Value.string n.zone) := bx2.cell 2
    go_wp2_with fail
    refine (H2.out _).mono ?_
    rintro e w9 ⟨rfl, rfl⟩
    go_wp2_with fail
    go_ret
    exact ⟨rfl, hB2⟩
theorem jobKey_any (j : JobD) (w : World) :
  Calls Tryz.prog 30 #[.agg #[.string j.name, .int .i64 j.prio, .int .i64 j.need, .int .i64 j.tries, .string j.tag]] w fun e w' => e = .returned (.string j.name) ∧ Below w.heap.size w w' := by
 go_enter Tryz.func30, Tryz.ntmps30
 go_wp2_with fail
 go_ret
 exact ⟨rfl, (Below.refl _ _).alloc (Nat.le_refl _) _⟩
theorem nodeKey_any (n : NodeD) (w : World) :
  Calls Tryz.prog 32 #[.agg #[.string n.name, .int .i64 n.room, .string n.zone]] w fun e w' => e = .returned (.string n.name) ∧ Below w.heap.size w w' := by
 go_enter Tryz.func32, Tryz.ntmps32
 go_wp2_with fail
 go_ret
 exact ⟨rfl, (Below.refl _ _).alloc (Nat.le_refl _) _⟩
theorem leaseKey_any (l : LeaseD) (w : World) :
  Calls Tryz.prog 34 #[.agg #[.string l.job, .string l.node, .int .i64 l.till]] w fun e w' => e = .returned (.string l.job) ∧ Below w.heap.size w w' := by
 go_enter Tryz.func34, Tryz.ntmps34
 go_wp2_with fail
 go_ret
 exact ⟨rfl, (Below.refl _ _).alloc (Nat.le_refl _) _⟩
open Go.RowKit
theorem rowsE_cons_bad {α : Type} (key : α → ByteArray) (chk : α → Nat) (p : Option α) (x : α) (r : List α) (h : chk x ≠ 0) : rowsE key chk p (x :: r) = chk x := by simp [rowsE, h]
theorem rowsE_cons_ord {α : Type} (key : α → ByteArray) (chk : α → Nat) (p : Option α) (x : α) (r : List α) (h : chk x = 0) (hb : badOrd key p x = true) : rowsE key chk p (x :: r) = 8 := by simp [rowsE, h, hb]
theorem rowsE_cons_ok {α : Type} (key : α → ByteArray) (chk : α → Nat) (p : Option α) (x : α) (r : List α) (h : chk x = 0) (hb : badOrd key p x = false) : rowsE key chk p (x :: r) = rowsE key chk (some x) r := by simp [rowsE, h, hb]
theorem drop_at {α : Type} (l : List α) (k : Nat) (x : α) (h : l[k]? = some x) : l.drop k = x :: l.drop (k + 1) := by
 obtain ⟨hk, rfl⟩ := List.getElem?_eq_some_iff.1 h
 exact List.drop_eq_getElem_cons hk
theorem prevOf_at {α : Type} (l : List α) (k : Nat) (x : α) (h : l[k]? = some x) : prevOf l (k + 1) = some x := h
theorem job_size : (Tryz.prog.info? 31).map (·.size) = some 5 := by kernel_rfl
theorem node_size : (Tryz.prog.info? 34).map (·.size) = some 3 := by kernel_rfl
theorem lease_size : (Tryz.prog.info? 37).map (·.size) = some 3 := by kernel_rfl
structure Fine (s : St) : Prop where
 rev : 0 ≤ s.rev ∧ s.rev ≤ 1099511627776
 nj : s.jobs.length ≤ 40
 nl : s.leases.length ≤ 40
 nn : s.nodes.length ≤ 20
 j : ∀ x ∈ s.jobs, jobE x = 0
 sj : Sorted JobD.name s.jobs
 n : ∀ x ∈ s.nodes, nodeE x = 0
 sn : Sorted NodeD.name s.nodes
 l : ∀ x ∈ s.leases, leaseE s.jobs s.nodes x = 0
 sl : Sorted LeaseD.job s.leases
 room : ∀ n ∈ s.nodes, usedBy s.jobs n.name s.leases ≤ n.room
theorem fine_iff (s : St) : checkE s = 0 ↔ Fine s := by
 unfold checkE
 constructor
 ·intro h
  split at h
  ·cases h
  rename_i h1
  split at h
  ·cases h
  rename_i h2
  split at h
  ·rename_i h3; exact absurd h h3
  rename_i h3
  split at h
  ·rename_i h4; exact absurd h h4
  rename_i h4
  split at h
  ·rename_i h5; exact absurd h h5
  rename_i h5
  split at h
  ·rename_i h6
   obtain ⟨a1, a2⟩ := rowsE_ok.1 (Classical.not_not.1 h3)
   obtain ⟨b1, b2⟩ := rowsE_ok.1 (Classical.not_not.1 h4)
   obtain ⟨c1, c2⟩ := rowsE_ok.1 (Classical.not_not.1 h5)
   refine ⟨?_, by omega, by omega, by omega, a1, a2, b1, b2, c1, c2, fun n hn => ?_⟩
   ·cases hw : withinB s.rev 0 1099511627776
    ·exact absurd hw h1
    ·exact withinB_iff.1 hw
   ·unfold roomOk at h6
    exact of_decide_eq_true (List.all_eq_true.1 h6 n hn)
  ·cases h
 ·intro h
  have e1 := withinB_iff.2 h.rev
  rw [if_neg (by rw [e1]; simp), if_neg (by have := h.nj; have := h.nl; have := h.nn; omega), if_neg (by rw [rowsE_ok.2 ⟨h.j, h.sj⟩]; simp), if_neg (by rw [rowsE_ok.2 ⟨h.n, h.sn⟩]; simp), if_neg (by rw [rowsE_ok.2 ⟨h.l, h.sl⟩]; simp), if_pos]
  unfold roomOk
  rw [List.all_eq_true]
  exact fun n hn => decide_eq_true (h.room n hn)
def usedR (s : St) (nm : ByteArray) : Int × Nat := if checkE s ≠ 0 then (0, checkE s) else if (nodeAt s.nodes nm).isSome then (usedBy s.jobs nm s.leases, 0) else (0, 6)
def ixBy {α : Type} (key : α → ByteArray) : List α → ByteArray → Nat → Int
 | [], _, _ => -1
 | x :: r, nm, i => if key x = nm then (i : Int) else ixBy key r nm (i + 1)
theorem dropAt {α : Type} (l : List α) (k : Nat) (x : α) (h : l[k]? = some x) : l.drop k = x :: l.drop (k + 1) := by
 obtain ⟨hk, rfl⟩ := List.getElem?_eq_some_iff.1 h
 exact List.drop_eq_getElem_cons hk
open Go.RowKit
theorem rowsJ_any (p : Option Addr) (c : Nat) (l : List JobD) (w : World) (hel : Elts w w.heap.size 5 p (l.map rowJ)) (hok : ∀ x ∈ l, x.name.size ≤ 9223372036854775807 ∧ x.tag.size ≤ 9223372036854775807) (hl : l.length ≤ 4611686018427387904) (hT : Tabs w) :
  Calls Tryz.prog 57 #[.slice p l.length c, .func (.func 30) #[] #[], .func (.func 58) #[] #[]] w fun e w' => e = .returned (.int .i64 (rowsE JobD.name jobE none l : Int)) ∧ Below w.heap.size w w' := by
 have HOK := Lib.hid hok
 clear hok
 go_enter Tryz.func57, Tryz.ntmps57
 go_wp2_with fail
 go_loopw [12] (fun i wr => ∃ k : Nat, k ≤ l.length ∧ i = .int .i64 k ∧ Below w.heap.size w wr ∧ Hid (rowsE JobD.name jobE none l = rowsE JobD.name jobE (prevOf l k) (l.drop k))) (fun i _ => l.length - (intOf i).toNat)
 case atStart => exact ⟨0, Nat.zero_le _, rfl, Below.refl _ _, (show _ = _ from rfl)⟩
 case round =>
  obtain ⟨k, hk, rfl, hbr, HR⟩ := hrel
  by_cases hlt : k < l.length
  ·have hx : l[k]? = some l[k] := List.getElem?_eq_getElem hlt
   have hg := HOK.out l[k] (List.getElem_mem hlt)
   have hdr := drop_at l k _ hx
   have hpv := prevOf_at l k _ hx
   generalize l[k] = x at *
   obtain ⟨a, rfl, hab, _, hat⟩ := (hel.below hbr).at_ (k := k) (r := rowJ x) (by rw [List.getElem?_map, hx]; rfl)
   have hb5 := hbr.alloc hbr.size (.cells #[.string x.name, .int .i64 x.prio, .int .i64 x.need, .int .i64 x.tries, .string x.tag] 31)
   have bx := Blk.new wr 31 #[.string x.name, .int .i64 x.prio, .int .i64 x.need, .int .i64 x.tries, .string x.tag]
   have hc := checkJob_any x (wr.alloc (.cells #[.string x.name, .int .i64 x.prio, .int .i64 x.need, .int .i64 x.tries, .string x.tag] 31)) hg.1 hg.2 (hT.below hb5)
   have hwr := hbr.size
   have hbr' : Below wr.heap.size wr (wr.alloc (.cells #[.string x.name, .int .i64 x.prio, .int .i64 x.need, .int .i64 x.tries, .string x.tag] 31)) := (Below.refl _ _).alloc (Nat.le_refl _) _
   have HR0 := HR.out
   rw [hdr] at HR0
   by_cases hE : jobE x = 0
   ·rw [hE] at hc
    have HC := Lib.hid hc
    cases hbo : badOrd JobD.name (prevOf l k) x
    all_goals
     first
      | rw [rowsE_cons_ok _ _ _ _ _ hE hbo, ← hpv] at HR0
      | rw [rowsE_cons_ord _ _ _ _ _ hE hbo] at HR0
     have HF := Lib.hid HR0
    all_goals
     obtain rfl | ⟨j, rfl⟩ : k = 0 ∨ ∃ j, k = j + 1 := by
      rcases k with _ | j
      ·exact .inl rfl
      ·exact .inr ⟨j, rfl⟩
    ·clear hc HR0 hE hbo hdr hpv hx HR
     go_wp2_with (refine wpList_load_at rfl _ _ rfl (a.add (0 * 5)) rfl [Value.string x.name, Value.int .i64 x.prio, Value.int .i64 x.need, Value.int .i64 x.tries, Value.string x.tag] _ hat Tryz.underlying31 rfl job_size ?_)
     refine HC.out.mono ?_
     rintro e w4 ⟨rfl, hb4⟩
     have bx4 := bx.below hb4 bx.lt
     have hb6 := hb5.trans (hb4.mono hb5.size)
     clear hat
     go_wp2_with fail
     go_quiet (fail)
     go_wp2_with fail
     go_roundw
     case rel => exact ⟨1, by omega, rfl, below_drewN hb6 _, HF.out⟩
     case measure => simp [intOf]; omega
    ·
     have hy : l[j]? = some l[j] := List.getElem?_eq_getElem (by omega)
     have hle : leS (JobD.name x) (JobD.name l[j]) = false := by
      have : badOrd JobD.name (some l[j]) x = false := by rw [← hbo]; congr 1; exact hy.symm
      exact this
     generalize l[j] = y at *
     obtain ⟨a', ha', _, _, hay⟩ := (hel.below hbr).at_ (k := j) (r := rowJ y) (by rw [List.getElem?_map, hy]; rfl)
     obtain rfl : a = a' := by injection ha'
     unfold leS at hle
     have HL := Lib.hid hle
     clear hc HR0 hE hbo hdr hpv hx hy ha' HR hle
     go_wp2_with (refine wpList_load_at rfl _ _ rfl (a.add ((j + 1) * 5)) rfl [Value.string x.name, Value.int .i64 x.prio, Value.int .i64 x.need, Value.int .i64 x.tries, Value.string x.tag] _ hat Tryz.underlying31 rfl job_size ?_)
     refine HC.out.mono ?_
     rintro e w4 ⟨rfl, hb4⟩
     have bx4 := bx.below hb4 bx.lt
     have hb6 := hb5.trans (hb4.mono hb5.size)
     have hay4 := (hay.below hbr' (by rw [block_of_add]; exact Nat.lt_of_lt_of_le hab hwr)).below hb4 (by rw [block_of_add]; have := hbr'.size; omega)
     clear hat hay
     go_wp2_with fail
     have hwj : IntKind.i64.wrap (j : Int) = (j : Int) := IntWalk.i64_in _ (by omega)
     have hj0 : (0 : Int) ≤ (j : Int) := by omega
     have hj1 : (j : Int) < (l.length : Int) := by omega
     refine wp_region_abv (by kernel_rfl) (by kernel_rfl) ?_
     repeat (first
      | (refine wpQuiet_load_g (by first | rfl | kernel_rfl) _ _ rfl ⟨wr.heap.size, 0, none⟩ rfl [Value.string x.name, Value.int .i64 x.prio, Value.int .i64 x.need, Value.int .i64 x.tries, Value.string x.tag] _ (fun w5 hw5 => At.blk (bx4.below hw5 bx4.lt)) Tryz.underlying31 rfl job_size ?_; simp only [Act.put, List.setIfInBounds_toArray, List.set_cons_zero, List.set_cons_succ])
      | (refine wpQuiet_load_g (by first | rfl | kernel_rfl) _ _ rfl (a.add (j * 5)) rfl [Value.string y.name, Value.int .i64 y.prio, Value.int .i64 y.need, Value.int .i64 y.tries, Value.string y.tag] _ (fun w5 hw5 => hay4.below hw5 (by rw [block_of_add]; have := hbr'.size; have := hb4.size; omega)) Tryz.underlying31 rfl job_size ?_; simp only [Act.put, List.setIfInBounds_toArray, List.set_cons_zero, List.set_cons_succ])
      | (apply wpQuiet_do; (focus (first | rfl | kernel_rfl)); (focus (intro w5 hw5; unfold Oper.quietAt; go_simp; first | rfl | exact ⟨rfl, rfl⟩ | (with_reducible refine (jobKey_any x w5).mono ?_; rintro e w8 ⟨rfl, hb8⟩; exact ⟨rfl, Abv.step hw5 hb8⟩) | (with_reducible refine (jobKey_any y w5).mono ?_; rintro e w8 ⟨rfl, hb8⟩; exact ⟨rfl, Abv.step hw5 hb8⟩))); simp only [Act.put, List.setIfInBounds_toArray, List.set_cons_zero, List.set_cons_succ]))
     refine wpQuiet_nil ?_
     intro w7 hw7
     have hb7 : Below w4.heap.size w4 w7 := hw7
     have hl7 := HL.out
     clear hwj hj0 hj1
     generalize (Op.bytesLess (JobD.name x).toList (JobD.name y).toList || (JobD.name x).toList == (JobD.name y).toList) = bo at hl7 ⊢
     subst hl7
     go_wp2_with fail
     refine ⟨⟨j + 1 + 1, by omega, by go_num, hb6.trans (hb7.mono hb6.size), HF.out⟩, by simp [intOf]; omega⟩
    ·exact absurd hbo (by simp [prevOf, badOrd])
    ·
     have hy : l[j]? = some l[j] := List.getElem?_eq_getElem (by omega)
     have hle : leS (JobD.name x) (JobD.name l[j]) = true := by
      have : badOrd JobD.name (some l[j]) x = true := by rw [← hbo]; congr 1; exact hy.symm
      exact this
     generalize l[j] = y at *
     obtain ⟨a', ha', _, _, hay⟩ := (hel.below hbr).at_ (k := j) (r := rowJ y) (by rw [List.getElem?_map, hy]; rfl)
     obtain rfl : a = a' := by injection ha'
     unfold leS at hle
     have HL := Lib.hid hle
     clear hc HR0 hE hbo hdr hpv hx hy ha' HR hle
     go_wp2_with (refine wpList_load_at rfl _ _ rfl (a.add ((j + 1) * 5)) rfl [Value.string x.name, Value.int .i64 x.prio, Value.int .i64 x.need, Value.int .i64 x.tries, Value.string x.tag] _ hat Tryz.underlying31 rfl job_size ?_)
     refine HC.out.mono ?_
     rintro e w4 ⟨rfl, hb4⟩
     have bx4 := bx.below hb4 bx.lt
     have hb6 := hb5.trans (hb4.mono hb5.size)
     have hay4 := (hay.below hbr' (by rw [block_of_add]; exact Nat.lt_of_lt_of_le hab hwr)).below hb4 (by rw [block_of_add]; have := hbr'.size; omega)
     clear hat hay
     go_wp2_with fail
     have hwj : IntKind.i64.wrap (j : Int) = (j : Int) := IntWalk.i64_in _ (by omega)
     have hj0 : (0 : Int) ≤ (j : Int) := by omega
     have hj1 : (j : Int) < (l.length : Int) := by omega
     refine wp_region_abv (by kernel_rfl) (by kernel_rfl) ?_
     repeat (first
      | (refine wpQuiet_load_g (by first | rfl | kernel_rfl) _ _ rfl ⟨wr.heap.size, 0, none⟩ rfl [Value.string x.name, Value.int .i64 x.prio, Value.int .i64 x.need, Value.int .i64 x.tries, Value.string x.tag] _ (fun w5 hw5 => At.blk (bx4.below hw5 bx4.lt)) Tryz.underlying31 rfl job_size ?_; simp only [Act.put, List.setIfInBounds_toArray, List.set_cons_zero, List.set_cons_succ])
      | (refine wpQuiet_load_g (by first | rfl | kernel_rfl) _ _ rfl (a.add (j * 5)) rfl [Value.string y.name, Value.int .i64 y.prio, Value.int .i64 y.need, Value.int .i64 y.tries, Value.string y.tag] _ (fun w5 hw5 => hay4.below hw5 (by rw [block_of_add]; have := hbr'.size; have := hb4.size; omega)) Tryz.underlying31 rfl job_size ?_; simp only [Act.put, List.setIfInBounds_toArray, List.set_cons_zero, List.set_cons_succ])
      | (apply wpQuiet_do; (focus (first | rfl | kernel_rfl)); (focus (intro w5 hw5; unfold Oper.quietAt; go_simp; first | rfl | exact ⟨rfl, rfl⟩ | (with_reducible refine (jobKey_any x w5).mono ?_; rintro e w8 ⟨rfl, hb8⟩; exact ⟨rfl, Abv.step hw5 hb8⟩) | (with_reducible refine (jobKey_any y w5).mono ?_; rintro e w8 ⟨rfl, hb8⟩; exact ⟨rfl, Abv.step hw5 hb8⟩))); simp only [Act.put, List.setIfInBounds_toArray, List.set_cons_zero, List.set_cons_succ]))
     refine wpQuiet_nil ?_
     intro w7 hw7
     have hb7 : Below w4.heap.size w4 w7 := hw7
     have hl7 := HL.out
     clear hwj hj0 hj1
     generalize (Op.bytesLess (JobD.name x).toList (JobD.name y).toList || (JobD.name x).toList == (JobD.name y).toList) = bo at hl7 ⊢
     subst hl7
     go_wp2_with fail
     go_ret
     exact ⟨by rw [HF.out]; rfl, hb6.trans (hb7.mono hb6.size)⟩
   ·rw [rowsE_cons_bad _ _ _ _ _ hE] at HR0
    have hne : ((jobE x : Int) != 0) = true := by rw [bne_iff_ne]; omega
    have HF := Lib.hid HR0
    have HC := Lib.hid hc
    clear hc HR0 hE hdr hpv hx HR
    go_wp2_with (refine wpList_load_at rfl _ _ rfl (a.add (k * 5)) rfl [Value.string x.name, Value.int .i64 x.prio, Value.int .i64 x.need, Value.int .i64 x.tries, Value.string x.tag] _ hat Tryz.underlying31 rfl job_size ?_)
    refine HC.out.mono ?_
    rintro e w4 ⟨rfl, hb4⟩
    go_wp2_with fail
    go_ret
    exact ⟨by rw [HF.out]; rfl, hb5.trans (hb4.mono hb5.size)⟩
  ·obtain rfl : k = l.length := by omega
   have HR0 := HR.out
   rw [List.drop_length] at HR0
   have HF := Lib.hid HR0
   clear HR0 HR
   go_wp2_with fail
   go_ret
   exact ⟨by rw [HF.out]; rfl, hbr⟩
open Go.RowKit
theorem rowsN_any (p : Option Addr) (c : Nat) (l : List NodeD) (w : World) (hel : Elts w w.heap.size 3 p (l.map rowN)) (hok : ∀ x ∈ l, x.name.size ≤ 9223372036854775807 ∧ x.zone.size ≤ 9223372036854775807) (hl : l.length ≤ 4611686018427387904) (hT : Tabs w) :
  Calls Tryz.prog 59 #[.slice p l.length c, .func (.func 32) #[] #[], .func (.func 60) #[] #[]] w fun e w' => e = .returned (.int .i64 (rowsE NodeD.name nodeE none l : Int)) ∧ Below w.heap.size w w' := by
 have HOK := Lib.hid hok
 clear hok
 go_enter Tryz.func59, Tryz.ntmps59
 go_wp2_with fail
 go_loopw [12] (fun i wr => ∃ k : Nat, k ≤ l.length ∧ i = .int .i64 k ∧ Below w.heap.size w wr ∧ Hid (rowsE NodeD.name nodeE none l = rowsE NodeD.name nodeE (prevOf l k) (l.drop k))) (fun i _ => l.length - (intOf i).toNat)
 case atStart => exact ⟨0, Nat.zero_le _, rfl, Below.refl _ _, (show _ = _ from rfl)⟩
 case round =>
  obtain ⟨k, hk, rfl, hbr, HR⟩ := hrel
  by_cases hlt : k < l.length
  ·have hx : l[k]? = some l[k] := List.getElem?_eq_getElem hlt
   have hg := HOK.out l[k] (List.getElem_mem hlt)
   have hdr := drop_at l k _ hx
   have hpv := prevOf_at l k _ hx
   generalize l[k] = x at *
   obtain ⟨a, rfl, hab, _, hat⟩ := (hel.below hbr).at_ (k := k) (r := rowN x) (by rw [List.getElem?_map, hx]; rfl)
   have hb5 := hbr.alloc hbr.size (.cells #[.string x.name, .int .i64 x.room, .string x.zone] 34)
   have bx := Blk.new wr 34 #[.string x.name, .int .i64 x.room, .string x.zone]
   have hc := checkNode_any x (wr.alloc (.cells #[.string x.name, .int .i64 x.room, .string x.zone] 34)) hg.1 hg.2 (hT.below hb5)
   have hwr := hbr.size
   have hbr' : Below wr.heap.size wr (wr.alloc (.cells #[.string x.name, .int .i64 x.room, .string x.zone] 34)) := (Below.refl _ _).alloc (Nat.le_refl _) _
   have HR0 := HR.out
   rw [hdr] at HR0
   by_cases hE : nodeE x = 0
   ·rw [hE] at hc
    have HC := Lib.hid hc
    cases hbo : badOrd NodeD.name (prevOf l k) x
    all_goals
     first
      | rw [rowsE_cons_ok _ _ _ _ _ hE hbo, ← hpv] at HR0
      | rw [rowsE_cons_ord _ _ _ _ _ hE hbo] at HR0
     have HF := Lib.hid HR0
    all_goals
     obtain rfl | ⟨j, rfl⟩ : k = 0 ∨ ∃ j, k = j + 1 := by
      rcases k with _ | j
      ·exact .inl rfl
      ·exact .inr ⟨j, rfl⟩
    ·clear hc HR0 hE hbo hdr hpv hx HR
     go_wp2_with (refine wpList_load_at rfl _ _ rfl (a.add (0 * 3)) rfl [Value.string x.name, Value.int .i64 x.room, Value.string x.zone] _ hat Tryz.underlying34 rfl node_size ?_)
     refine HC.out.mono ?_
     rintro e w4 ⟨rfl, hb4⟩
     have bx4 := bx.below hb4 bx.lt
     have hb6 := hb5.trans (hb4.mono hb5.size)
     clear hat
     go_wp2_with fail
     go_quiet (fail)
     go_wp2_with fail
     go_roundw
     case rel => exact ⟨1, by omega, rfl, below_drewN hb6 _, HF.out⟩
     case measure => simp [intOf]; omega
    ·
     have hy : l[j]? = some l[j] := List.getElem?_eq_getElem (by omega)
     have hle : leS (NodeD.name x) (NodeD.name l[j]) = false := by
      have : badOrd NodeD.name (some l[j]) x = false := by rw [← hbo]; congr 1; exact hy.symm
      exact this
     generalize l[j] = y at *
     obtain ⟨a', ha', _, _, hay⟩ := (hel.below hbr).at_ (k := j) (r := rowN y) (by rw [List.getElem?_map, hy]; rfl)
     obtain rfl : a = a' := by injection ha'
     unfold leS at hle
     have HL := Lib.hid hle
     clear hc HR0 hE hbo hdr hpv hx hy ha' HR hle
     go_wp2_with (refine wpList_load_at rfl _ _ rfl (a.add ((j + 1) * 3)) rfl [Value.string x.name, Value.int .i64 x.room, Value.string x.zone] _ hat Tryz.underlying34 rfl node_size ?_)
     refine HC.out.mono ?_
     rintro e w4 ⟨rfl, hb4⟩
     have bx4 := bx.below hb4 bx.lt
     have hb6 := hb5.trans (hb4.mono hb5.size)
     have hay4 := (hay.below hbr' (by rw [block_of_add]; exact Nat.lt_of_lt_of_le hab hwr)).below hb4 (by rw [block_of_add]; have := hbr'.size; omega)
     clear hat hay
     go_wp2_with fail
     have hwj : IntKind.i64.wrap (j : Int) = (j : Int) := IntWalk.i64_in _ (by omega)
     have hj0 : (0 : Int) ≤ (j : Int) := by omega
     have hj1 : (j : Int) < (l.length : Int) := by omega
     refine wp_region_abv (by kernel_rfl) (by kernel_rfl) ?_
     repeat (first
      | (refine wpQuiet_load_g (by first | rfl | kernel_rfl) _ _ rfl ⟨wr.heap.size, 0, none⟩ rfl [Value.string x.name, Value.int .i64 x.room, Value.string x.zone] _ (fun w5 hw5 => At.blk (bx4.below hw5 bx4.lt)) Tryz.underlying34 rfl node_size ?_; simp only [Act.put, List.setIfInBounds_toArray, List.set_cons_zero, List.set_cons_succ])
      | (refine wpQuiet_load_g (by first | rfl | kernel_rfl) _ _ rfl (a.add (j * 3)) rfl [Value.string y.name, Value.int .i64 y.room, Value.string y.zone] _ (fun w5 hw5 => hay4.below hw5 (by rw [block_of_add]; have := hbr'.size; have := hb4.size; omega)) Tryz.underlying34 rfl node_size ?_; simp only [Act.put, List.setIfInBounds_toArray, List.set_cons_zero, List.set_cons_succ])
      | (apply wpQuiet_do; (focus (first | rfl | kernel_rfl)); (focus (intro w5 hw5; unfold Oper.quietAt; go_simp; first | rfl | exact ⟨rfl, rfl⟩ | (with_reducible refine (nodeKey_any x w5).mono ?_; rintro e w8 ⟨rfl, hb8⟩; exact ⟨rfl, Abv.step hw5 hb8⟩) | (with_reducible refine (nodeKey_any y w5).mono ?_; rintro e w8 ⟨rfl, hb8⟩; exact ⟨rfl, Abv.step hw5 hb8⟩))); simp only [Act.put, List.setIfInBounds_toArray, List.set_cons_zero, List.set_cons_succ]))
     refine wpQuiet_nil ?_
     intro w7 hw7
     have hb7 : Below w4.heap.size w4 w7 := hw7
     have hl7 := HL.out
     clear hwj hj0 hj1
     generalize (Op.bytesLess (NodeD.name x).toList (NodeD.name y).toList || (NodeD.name x).toList == (NodeD.name y).toList) = bo at hl7 ⊢
     subst hl7
     go_wp2_with fail
     refine ⟨⟨j + 1 + 1, by omega, by go_num, hb6.trans (hb7.mono hb6.size), HF.out⟩, by simp [intOf]; omega⟩
    ·exact absurd hbo (by simp [prevOf, badOrd])
    ·
     have hy : l[j]? = some l[j] := List.getElem?_eq_getElem (by omega)
     have hle : leS (NodeD.name x) (NodeD.name l[j]) = true := by
      have : badOrd NodeD.name (some l[j]) x = true := by rw [← hbo]; congr 1; exact hy.symm
      exact this
     generalize l[j] = y at *
     obtain ⟨a', ha', _, _, hay⟩ := (hel.below hbr).at_ (k := j) (r := rowN y) (by rw [List.getElem?_map, hy]; rfl)
     obtain rfl : a = a' := by injection ha'
     unfold leS at hle
     have HL := Lib.hid hle
     clear hc HR0 hE hbo hdr hpv hx hy ha' HR hle
     go_wp2_with (refine wpList_load_at rfl _ _ rfl (a.add ((j + 1) * 3)) rfl [Value.string x.name, Value.int .i64 x.room, Value.string x.zone] _ hat Tryz.underlying34 rfl node_size ?_)
     refine HC.out.mono ?_
     rintro e w4 ⟨rfl, hb4⟩
     have bx4 := bx.below hb4 bx.lt
     have hb6 := hb5.trans (hb4.mono hb5.size)
     have hay4 := (hay.below hbr' (by rw [block_of_add]; exact Nat.lt_of_lt_of_le hab hwr)).below hb4 (by rw [block_of_add]; have := hbr'.size; omega)
     clear hat hay
     go_wp2_with fail
     have hwj : IntKind.i64.wrap (j : Int) = (j : Int) := IntWalk.i64_in _ (by omega)
     have hj0 : (0 : Int) ≤ (j : Int) := by omega
     have hj1 : (j : Int) < (l.length : Int) := by omega
     refine wp_region_abv (by kernel_rfl) (by kernel_rfl) ?_
     repeat (first
      | (refine wpQuiet_load_g (by first | rfl | kernel_rfl) _ _ rfl ⟨wr.heap.size, 0, none⟩ rfl [Value.string x.name, Value.int .i64 x.room, Value.string x.zone] _ (fun w5 hw5 => At.blk (bx4.below hw5 bx4.lt)) Tryz.underlying34 rfl node_size ?_; simp only [Act.put, List.setIfInBounds_toArray, List.set_cons_zero, List.set_cons_succ])
      | (refine wpQuiet_load_g (by first | rfl | kernel_rfl) _ _ rfl (a.add (j * 3)) rfl [Value.string y.name, Value.int .i64 y.room, Value.string y.zone] _ (fun w5 hw5 => hay4.below hw5 (by rw [block_of_add]; have := hbr'.size; have := hb4.size; omega)) Tryz.underlying34 rfl node_size ?_; simp only [Act.put, List.setIfInBounds_toArray, List.set_cons_zero, List.set_cons_succ])
      | (apply wpQuiet_do; (focus (first | rfl | kernel_rfl)); (focus (intro w5 hw5; unfold Oper.quietAt; go_simp; first | rfl | exact ⟨rfl, rfl⟩ | (with_reducible refine (nodeKey_any x w5).mono ?_; rintro e w8 ⟨rfl, hb8⟩; exact ⟨rfl, Abv.step hw5 hb8⟩) | (with_reducible refine (nodeKey_any y w5).mono ?_; rintro e w8 ⟨rfl, hb8⟩; exact ⟨rfl, Abv.step hw5 hb8⟩))); simp only [Act.put, List.setIfInBounds_toArray, List.set_cons_zero, List.set_cons_succ]))
     refine wpQuiet_nil ?_
     intro w7 hw7
     have hb7 : Below w4.heap.size w4 w7 := hw7
     have hl7 := HL.out
     clear hwj hj0 hj1
     generalize (Op.bytesLess (NodeD.name x).toList (NodeD.name y).toList || (NodeD.name x).toList == (NodeD.name y).toList) = bo at hl7 ⊢
     subst hl7
     go_wp2_with fail
     go_ret
     exact ⟨by rw [HF.out]; rfl, hb6.trans (hb7.mono hb6.size)⟩
   ·rw [rowsE_cons_bad _ _ _ _ _ hE] at HR0
    have hne : ((nodeE x : Int) != 0) = true := by rw [bne_iff_ne]; omega
    have HF := Lib.hid HR0
    have HC := Lib.hid hc
    clear hc HR0 hE hdr hpv hx HR
    go_wp2_with (refine wpList_load_at rfl _ _ rfl (a.add (k * 3)) rfl [Value.string x.name, Value.int .i64 x.room, Value.string x.zone] _ hat Tryz.underlying34 rfl node_size ?_)
    refine HC.out.mono ?_
    rintro e w4 ⟨rfl, hb4⟩
    go_wp2_with fail
    go_ret
    exact ⟨by rw [HF.out]; rfl, hb5.trans (hb4.mono hb5.size)⟩
  ·obtain rfl : k = l.length := by omega
   have HR0 := HR.out
   rw [List.drop_length] at HR0
   have HF := Lib.hid HR0
   clear HR0 HR
   go_wp2_with fail
   go_ret
   exact ⟨by rw [HF.out]; rfl, hbr⟩
open Go.RowKit
def valJ (j : JobD) : Value := .agg #[.string j.name, .int .i64 j.prio, .int .i64 j.need, .int .i64 j.tries, .string j.tag]
def valN (n : NodeD) : Value := .agg #[.string n.name, .int .i64 n.room, .string n.zone]
def zJ : JobD := ⟨ByteArray.empty, 0, 0, 0, ByteArray.empty⟩
def zN : NodeD := ⟨ByteArray.empty, 0, ByteArray.empty⟩
theorem zero_job (W : World) : (zeroValue 31).run Tryz.prog W = .ok (valJ zJ) W := by kernel_rfl
theorem zero_node (W : World) : (zeroValue 34).run Tryz.prog W = .ok (valN zN) W := by kernel_rfl
theorem zero_int (W : World) : (zeroValue 3).run Tryz.prog W = .ok (.int .i64 0) W := by kernel_rfl
theorem zero_job_lit (W : World) : (zeroValue 31).run Tryz.prog W = .ok (.agg #[.string ByteArray.empty, .int .i64 0, .int .i64 0, .int .i64 0, .string ByteArray.empty]) W := by kernel_rfl
theorem zero_node_lit (W : World) : (zeroValue 34).run Tryz.prog W = .ok (.agg #[.string ByteArray.empty, .int .i64 0, .string ByteArray.empty]) W := by kernel_rfl
structure TabIs (w : World) (gt bj bn bu : Nat) (jobs : List JobD) (nodes : List NodeD) (u : ByteArray → Int) where
 blk : Blk w gt 113 #[.map (some bj), .map (some bn), .map (some bu)]
 mj : ∃ m, MapIs w bj m ∧ ∀ nm, getM m nm = (jobAt jobs nm).map valJ
 mn : ∃ m, MapIs w bn m ∧ ∀ nm, getM m nm = (nodeAt nodes nm).map valN
 mu : ∃ m, MapIs w bu m ∧ ∀ nm, (getM m nm).getD (.int .i64 0) = .int .i64 (u nm)
theorem MapIs.below {w w' : World} {b : Nat} {m : List (ByteArray × Value)} (h : MapIs w b m) (hb : Below w.heap.size w w') : MapIs w' b m := by
 obtain ⟨es, c, h1, h2⟩ := h
 have hlt : b < w.heap.size := (Array.getElem?_eq_some_iff.1 h1).1
 exact ⟨es, c, (hb.block b hlt).trans h1, h2⟩
theorem MapIs.lt {w : World} {b : Nat} {m : List (ByteArray × Value)} (h : MapIs w b m) : b < w.heap.size := by
 obtain ⟨es, c, h1, h2⟩ := h
 exact (Array.getElem?_eq_some_iff.1 h1).1
theorem MapIs.grown {w w' : World} {b : Nat} {m : List (ByteArray × Value)} {row : Option Nat} (h : MapIs w b m) (hg : w.grownBy w' row) (hne : some b ≠ row) : MapIs w' b m := by
 have hlt := h.lt
 obtain ⟨es, c, h1, h2⟩ := h
 exact ⟨es, c, (hg.block b hlt hne).trans h1, h2⟩
theorem TabIs.below {w w' : World} {gt bj bn bu : Nat} {jobs : List JobD} {nodes : List NodeD} {u : ByteArray → Int} (h : TabIs w gt bj bn bu jobs nodes u) (hb : Below w.heap.size w w') : TabIs w' gt bj bn bu jobs nodes u where
 blk := h.blk.below hb h.blk.lt
 mj := by obtain ⟨m, h1, h2⟩ := h.mj; exact ⟨m, h1.below hb, h2⟩
 mn := by obtain ⟨m, h1, h2⟩ := h.mn; exact ⟨m, h1.below hb, h2⟩
 mu := by obtain ⟨m, h1, h2⟩ := h.mu; exact ⟨m, h1.below hb, h2⟩
def fitB (jobs : List JobD) (nodes : List NodeD) (l : LeaseD) : Bool := (jobAt jobs l.job).isSome && (nodeAt nodes l.node).isSome
section
variable {w : World} {gt bj bn bu : Nat} {jobs : List JobD} {nodes : List NodeD} {u : ByteArray → Int}
theorem TabIs.lookJ (h : TabIs w gt bj bn bu jobs nodes u) (s : ByteArray) : (Instr.lookup 109 (.map (some bj)) (.string s) true).run Tryz.prog w = .ok (.tuple #[valJ ((jobAt jobs s).getD zJ), .bool (jobAt jobs s).isSome]) w := by
 obtain ⟨m, hm, hg⟩ := h.mj
 have := run_lookup_map (P := Tryz.prog) hm Tryz.underlying109 Tryz.underlying9 s _ (zero_job _) true
 rw [hg] at this
 rw [this]
 cases jobAt jobs s <;> rfl
theorem TabIs.lookN (h : TabIs w gt bj bn bu jobs nodes u) (s : ByteArray) : (Instr.lookup 110 (.map (some bn)) (.string s) true).run Tryz.prog w = .ok (.tuple #[valN ((nodeAt nodes s).getD zN), .bool (nodeAt nodes s).isSome]) w := by
 obtain ⟨m, hm, hg⟩ := h.mn
 have := run_lookup_map (P := Tryz.prog) hm Tryz.underlying110 Tryz.underlying9 s _ (zero_node _) true
 rw [hg] at this
 rw [this]
 cases nodeAt nodes s <;> rfl
theorem TabIs.lookU (h : TabIs w gt bj bn bu jobs nodes u) (s : ByteArray) : (Instr.lookup 111 (.map (some bu)) (.string s) false).run Tryz.prog w = .ok (.int .i64 (u s)) w := by
 obtain ⟨m, hm, hg⟩ := h.mu
 have := run_lookup_map (P := Tryz.prog) hm Tryz.underlying111 Tryz.underlying9 s _ (zero_int _) false
 rw [hg] at this
 rw [this]; rfl
def addAt (u : ByteArray → Int) (s : ByteArray) (n : Int) : ByteArray → Int := fun x => if s = x then u s + n else u x
theorem TabIs.putU (h : TabIs w gt bj bn bu jobs nodes u) (hne : gt ≠ bu ∧ bj ≠ bu ∧ bn ≠ bu) (s : ByteArray) (n : Int) : ∃ w', (Instr.mapUpdate 111 (.map (some bu)) (.string s) (.int .i64 (u s + n))).run Tryz.prog w = .ok () w' ∧ TabIs w' gt bj bn bu jobs nodes (addAt u s n) ∧ w.grownBy w' (some bu) := by
 obtain ⟨m, hm, hg⟩ := h.mu
 obtain ⟨w', h1, h2, h3, h4⟩ := run_update_map (P := Tryz.prog) hm Tryz.underlying111 Tryz.underlying9 s (.int .i64 (u s + n))
 refine ⟨w', h1, ⟨?_, ?_, ?_, ⟨_, h2, fun nm => ?_⟩⟩, h3⟩
 ·exact (h3.block gt h.blk.lt (by intro h0; injection h0 with h0; exact hne.1 h0)).trans h.blk
 ·obtain ⟨m, a1, a2⟩ := h.mj
  exact ⟨m, a1.grown h3 (by intro h0; injection h0 with h0; exact hne.2.1 h0), a2⟩
 ·obtain ⟨m, a1, a2⟩ := h.mn
  exact ⟨m, a1.grown h3 (by intro h0; injection h0 with h0; exact hne.2.2 h0), a2⟩
 ·rw [getM_put]
  unfold addAt
  by_cases h5 : s = nm
  ·rw [if_pos h5, if_pos h5]; rfl
  ·rw [if_neg h5, if_neg h5]; exact hg nm
end
def LeasePost (w : World) (gt bj bn bu : Nat) (jobs : List JobD) (nodes : List NodeD) (u : ByteArray → Int) (l : LeaseD) (e : Ending) (w' : World) : Prop :=
 e = .returned (.int .i64 (leaseE jobs nodes l : Int)) ∧ w.grownBy w' (some bu) ∧ (fitB jobs nodes l = true → TabIs w' gt bj bn bu jobs nodes (addAt u l.node (needOf jobs l.job)))
theorem grown_below {a b : World} (h : Below a.heap.size a b) (r : Option Nat) : a.grownBy b r := ⟨h.os, h.tape, h.output, h.size, fun k hk _ => h.block k hk⟩
theorem grown_trans {a b c : World} {r : Option Nat} (h1 : a.grownBy b r) (h2 : b.grownBy c r) : a.grownBy c r :=
 ⟨h2.os.trans h1.os, h2.tape.trans h1.tape, h2.output.trans h1.output, Nat.le_trans h1.size h2.size, fun k hk hne => (h2.block k (Nat.lt_of_lt_of_le hk h1.size) hne).trans (h1.block k hk hne)⟩
theorem lease_any (l : LeaseD) (gt bj bn bu : Nat) (jobs : List JobD) (nodes : List NodeD) (u : ByteArray → Int) (w : World) (h : TabIs w gt bj bn bu jobs nodes u) (hne : gt ≠ bu ∧ bj ≠ bu ∧ bn ≠ bu)
  (hu : -1000000000000 ≤ u l.node ∧ u l.node ≤ 1000000000000) (hn : -1000000000000 ≤ needOf jobs l.job ∧ needOf jobs l.job ≤ 1000000000000) :
  Calls Tryz.prog 62 #[.pointer (some ⟨gt, 0, none⟩), .agg #[.string l.job, .string l.node, .int .i64 l.till]] w fun e w' => LeasePost w gt bj bn bu jobs nodes u l e w' := by
 have hlt := h.blk.lt
 have hlj := fun (W : World) (hW : Below w.heap.size w W) => (h.below hW).lookJ l.job
 have hln := fun (W : World) (hW : Below w.heap.size w W) => (h.below hW).lookN l.node
 have hnd : ((jobAt jobs l.job).getD zJ).need = needOf jobs l.job := by unfold needOf; cases jobAt jobs l.job <;> rfl
 have hle : leaseE jobs nodes l = if (jobAt jobs l.job).isSome && (nodeAt nodes l.node).isSome then (if withinB l.till 0 1099511627776 then 0 else 1) else 6 := rfl
 have hfb : fitB jobs nodes l = ((jobAt jobs l.job).isSome && (nodeAt nodes l.node).isSome) := rfl
 generalize (jobAt jobs l.job).getD zJ = j at *
 generalize (nodeAt nodes l.node).getD zN = n at *
 unfold valJ at hlj
 unfold valN at hln
 cases hj : (jobAt jobs l.job).isSome
 all_goals cases hn2 : (nodeAt nodes l.node).isSome
 all_goals
  rw [hj] at hlj hle hfb
  rw [hn2] at hln hle hfb
  have HLJ := Lib.hid hlj
  have HLN := Lib.hid hln
  have HLE := Lib.hid hle
  have HFB := Lib.hid hfb
  have HH := Lib.hid h
  have HND := Lib.hid hnd
  have hB0 : Below w.heap.size w (w.alloc (.cells #[.string l.job, .string l.node, .int .i64 l.till] 37)) := (Below.refl _ _).alloc (Nat.le_refl _) _
  have e1 := HLJ.out _ hB0
  have e1d := HLJ.out _ hB0.drew
  have e2 := fun o => HLJ.out _ (hB0.alloc hB0.size o)
  have e2d := fun o => HLJ.out _ (hB0.alloc hB0.size o).drew
  have c0a : ∀ o1, (w.alloc o1).cell? ⟨gt, 0, none⟩ = some (.map (some bj)) := fun o1 => (h.blk.alloc o1).cell 0
  have c0b : ∀ o1 o2, ((w.alloc o1).alloc o2).cell? ⟨gt, 0, none⟩ = some (.map (some bj)) := fun o1 o2 => ((h.blk.alloc o1).alloc o2).cell 0
  have hzj := zero_job_lit
  have hzn := zero_node_lit
  clear hlj hln hle hfb hj hn2 h hnd
  go_enter Tryz.func62, Tryz.ntmps62
  go_wp2_with fail
  go_big_region
  have hB1 : Below w.heap.size w ((w.alloc (.cells #[.string l.job, .string l.node, .int .i64 l.till] 37)).alloc (.cells #[.string j.name, .int .i64 j.prio, .int .i64 j.need, .int .i64 j.tries, .string j.tag] 31)).drew := (hB0.alloc hB0.size _).drew
  have bl : Blk ((w.alloc (.cells #[.string l.job, .string l.node, .int .i64 l.till] 37)).alloc (.cells #[.string j.name, .int .i64 j.prio, .int .i64 j.need, .int .i64 j.tries, .string j.tag] 31)).drew w.heap.size 37 #[.string l.job, .string l.node, .int .i64 l.till] := (Blk.new w _ _).alloc _
  have bJ : Blk ((w.alloc (.cells #[.string l.job, .string l.node, .int .i64 l.till] 37)).alloc (.cells #[.string j.name, .int .i64 j.prio, .int .i64 j.need, .int .i64 j.tries, .string j.tag] 31)).drew (w.heap.size + 1) 31 #[.string j.name, .int .i64 j.prio, .int .i64 j.need, .int .i64 j.tries, .string j.tag] := by
   have := Blk.new (w.alloc (.cells #[.string l.job, .string l.node, .int .i64 l.till] 37)) 31 #[.string j.name, .int .i64 j.prio, .int .i64 j.need, .int .i64 j.tries, .string j.tag]
   rwa [show (w.alloc (.cells #[.string l.job, .string l.node, .int .i64 l.till] 37)).heap.size = w.heap.size + 1 by simp] at this
  clear e1 e1d e2 e2d c0a c0b hzj hB0
  generalize ((w.alloc (.cells #[.string l.job, .string l.node, .int .i64 l.till] 37)).alloc (.cells #[.string j.name, .int .i64 j.prio, .int .i64 j.need, .int .i64 j.tries, .string j.tag] 31)).drew = W at *
  have e1 := HLN.out _ hB1
  have e1d := HLN.out _ hB1.drew
  have e2 := fun o => HLN.out _ (hB1.alloc hB1.size o)
  have e2d := fun o => HLN.out _ (hB1.alloc hB1.size o).drew
  have bT := HH.out.blk.below hB1 hlt
  have c1 : W.cell? ⟨gt, 1, none⟩ = some (.map (some bn)) := bT.cell 1
  have c1a : ∀ o1, (W.alloc o1).cell? ⟨gt, 1, none⟩ = some (.map (some bn)) := fun o1 => (bT.alloc o1).cell 1
  have d1 : W.cell? ⟨w.heap.size, 1, none⟩ = some (.string l.node) := bl.cell 1
  have d1a : ∀ o1, (W.alloc o1).cell? ⟨w.heap.size, 1, none⟩ = some (.string l.node) := fun o1 => (bl.alloc o1).cell 1
  go_wp2_with fail
  go_big_region
  have hB2 : Below w.heap.size w (W.alloc (.cells #[.string n.name, .int .i64 n.room, .string n.zone] 34)).drew := (hB1.alloc hB1.size _).drew
  have bl2 : Blk (W.alloc (.cells #[.string n.name, .int .i64 n.room, .string n.zone] 34)).drew w.heap.size 37 #[.string l.job, .string l.node, .int .i64 l.till] := bl.alloc _
  have bJ2 : Blk (W.alloc (.cells #[.string n.name, .int .i64 n.room, .string n.zone] 34)).drew (w.heap.size + 1) 31 #[.string j.name, .int .i64 j.prio, .int .i64 j.need, .int .i64 j.tries, .string j.tag] := bJ.alloc _
  clear e1 e1d e2 e2d c1 c1a d1 d1a bT hB1 bl bJ hzn
  generalize (W.alloc (.cells #[.string n.name, .int .i64 n.room, .string n.zone] 34)).drew = W2 at *
 ·go_wp2_with fail
  go_ret
  exact ⟨by rw [HLE.out]; rfl, grown_below hB2 _, fun h0 => by rw [HFB.out] at h0; cases h0⟩
 ·go_wp2_with fail
  go_ret
  exact ⟨by rw [HLE.out]; rfl, grown_below hB2 _, fun h0 => by rw [HFB.out] at h0; cases h0⟩
 ·go_wp2_with fail
  go_ret
  exact ⟨by rw [HLE.out]; rfl, grown_below hB2 _, fun h0 => by rw [HFB.out] at h0; cases h0⟩
 ·have hT2 := HH.out.below hB2
  have hlu := fun (W : World) (hW : Below W2.heap.size W2 W) => (hT2.below hW).lookU l.node
  have hud := hlu _ (Below.refl _ _).drew
  have hT2d := hT2.below (Below.refl _ _).drew
  obtain ⟨w5, hup, hT5, hg5⟩ := hT2d.putU hne l.node (needOf jobs l.job)
  have c2 : W2.cell? ⟨gt, 2, none⟩ = some (.map (some bu)) := hT2.blk.cell 2
  have d1 : W2.cell? ⟨w.heap.size, 1, none⟩ = some (.string l.node) := bl2.cell 1
  have d2 : W2.cell? ⟨w.heap.size + 1, 2, none⟩ = some (.int .i64 j.need) := bJ2.cell 2
  rw [HND.out] at d2
  have hs2 := hB2.size
  have bl5 : Blk w5 w.heap.size 37 #[.string l.job, .string l.node, .int .i64 l.till] := by
   obtain ⟨m, hm, _⟩ := HH.out.mu
   have := hm.lt
   exact (hg5.block w.heap.size bl2.lt (by intro h0; injection h0 with h0; omega)).trans bl2
  have c5 : w5.cell? ⟨w.heap.size, 2, none⟩ = some (.int .i64 l.till) := bl5.cell 2
  have hw : IntKind.i64.wrap (u l.node + needOf jobs l.job) = u l.node + needOf jobs l.job := IntWalk.i64_in _ (by omega)
  have HT5 := Lib.hid hT5
  clear hT5 hT2d hT2 hlu
  go_wp2_with fail
  go_still_tail 10, (by kernel_rfl)
  change wpList _ _ _ _ _ W2.drew
  have hg6 : w.grownBy w5 (some bu) := grown_trans (grown_below hB2.drew _) hg5
  clear hud
  generalize W2.drew = W3 at *
  go_wp2_with fail
  refine (within_any _ _ _ _).mono ?_
  rintro e w6 ⟨rfl, rfl⟩
  cases hwb : withinB l.till 0 1099511627776
  ·rw [hwb] at HLE
   go_wp2_with fail
   go_ret
   exact ⟨by rw [HLE.out]; rfl, hg6, fun _ => HT5.out⟩
  ·rw [hwb] at HLE
   go_wp2_with fail
   go_ret
   exact ⟨by rw [HLE.out]; rfl, hg6, fun _ => HT5.out⟩
open Go.RowKit
theorem At.gr {w w' : World} {b : Nat} {a : Addr} {cs : List Value} (h : At w a cs) (hg : w.grownBy w' (some b)) (ha : a.block < w.heap.size) (hb : a.block ≠ b) : At w' a cs :=
 fun j v hv => (World.cell?_of_block (by rw [block_of_add]; exact hg.block a.block ha (by intro h0; injection h0 with h0; exact hb h0))).trans (h j v hv)
theorem Elts.gr {w w' : World} {B b size : Nat} {p : Option Addr} {rows : List (List Value)} (h : Elts w B size p rows) (hg : w.grownBy w' (some b)) (hB : B ≤ w.heap.size) (hb : B ≤ b) : Elts w' B size p rows :=
 ⟨h.1, fun hn => by
  obtain ⟨a, e, hab, hc⟩ := h.2 hn
  exact ⟨a, e, hab, fun k r hr => (hc k r hr).gr hg (by rw [block_of_add]; omega) (by rw [block_of_add]; omega)⟩⟩
theorem Blk.gr {w w' : World} {g b : Nat} {t : TypeId} {cs : Array Value} (h : Blk w g t cs) (hg : w.grownBy w' (some b)) (hne : g ≠ b) : Blk w' g t cs := (hg.block g h.lt (by intro h0; injection h0 with h0; exact hne h0)).trans h
theorem usedBy_append (jobs : List JobD) (nm : ByteArray) (a b : List LeaseD) : usedBy jobs nm (a ++ b) = usedBy jobs nm a + usedBy jobs nm b := by
 induction a with
 | nil => simp [usedBy]
 | cons x r ih => simp only [List.cons_append, usedBy, ih]; omega
theorem usedBy_take (jobs : List JobD) (l : List LeaseD) (k : Nat) (x : LeaseD) (h : l[k]? = some x) : addAt (fun nm => usedBy jobs nm (l.take k)) x.node (needOf jobs x.job) = fun nm => usedBy jobs nm (l.take (k + 1)) := by
 funext nm
 rw [List.take_add_one, h, Option.toList_some, usedBy_append]
 unfold addAt
 simp only [usedBy]
 by_cases h1 : x.node = nm
 ·rw [if_pos h1, if_pos h1, h1]; omega
 ·rw [if_neg h1, if_neg h1]; omega
theorem usedBy_bd (jobs : List JobD) (hneed : ∀ nm, 0 ≤ needOf jobs nm ∧ needOf jobs nm ≤ 1000000) (nm : ByteArray) (l : List LeaseD) : 0 ≤ usedBy jobs nm l ∧ usedBy jobs nm l ≤ 1000000 * (l.length : Int) := by
 induction l with
 | nil => simp [usedBy]
 | cons x r ih =>
  have := hneed x.job
  simp only [usedBy, List.length_cons]
  split <;> omega
theorem leaseE_fit {jobs : List JobD} {nodes : List NodeD} {l : LeaseD} (h : leaseE jobs nodes l = 0) : fitB jobs nodes l = true := by
 unfold leaseE at h
 unfold fitB
 split at h
 ·assumption
 ·cases h
def RowsLPost (w : World) (gt bj bn bu : Nat) (jobs : List JobD) (nodes : List NodeD) (l : List LeaseD) (e : Ending) (w' : World) : Prop :=
 e = .returned (.int .i64 (rowsE LeaseD.job (leaseE jobs nodes) none l : Int)) ∧ w.grownBy w' (some bu) ∧ (rowsE LeaseD.job (leaseE jobs nodes) none l = 0 → TabIs w' gt bj bn bu jobs nodes (fun nm => usedBy jobs nm l))
theorem rowsL_any (p : Option Addr) (c : Nat) (l : List LeaseD) (gt bj bn bu B : Nat) (jobs : List JobD) (nodes : List NodeD) (w : World) (hT : TabIs w gt bj bn bu jobs nodes (fun _ => 0)) (hne : gt ≠ bu ∧ bj ≠ bu ∧ bn ≠ bu)
  (hneed : ∀ nm, 0 ≤ needOf jobs nm ∧ needOf jobs nm ≤ 1000000) (hl : l.length ≤ 40) (hel : Elts w B 3 p (l.map rowL)) (hB : B ≤ w.heap.size) (hBu : B ≤ bu) :
  Calls Tryz.prog 61 #[.slice p l.length c, .func (.func 34) #[] #[], .func (.func 62) #[.pointer (some ⟨gt, 0, none⟩)] #[]] w fun e w' => RowsLPost w gt bj bn bu jobs nodes l e w' := by
 have hbu : bu < w.heap.size := by obtain ⟨m, hm, _⟩ := hT.mu; exact hm.lt
 have HT0 := Lib.hid hT
 have HN := Lib.hid hneed
 clear hT hneed
 go_enter Tryz.func61, Tryz.ntmps61
 go_wp2_with fail
 go_loopw [12] (fun i wr => ∃ k : Nat, k ≤ l.length ∧ i = .int .i64 k ∧ w.grownBy wr (some bu) ∧ Hid (TabIs wr gt bj bn bu jobs nodes (fun nm => usedBy jobs nm (l.take k))) ∧ Hid (rowsE LeaseD.job (leaseE jobs nodes) none l = rowsE LeaseD.job (leaseE jobs nodes) (prevOf l k) (l.drop k))) (fun i _ => l.length - (intOf i).toNat)
 case atStart => exact ⟨0, Nat.zero_le _, rfl, World.grownBy.refl w _, (show TabIs w gt bj bn bu jobs nodes _ from HT0.out), (show _ = _ from rfl)⟩
 case round =>
  obtain ⟨k, hk, rfl, hgr, HT, HR⟩ := hrel
  by_cases hlt : k < l.length
  ·have hx : l[k]? = some l[k] := List.getElem?_eq_getElem hlt
   have hdr := drop_at l k _ hx
   have hpv := prevOf_at l k _ hx
   have hut := usedBy_take jobs l k _ hx
   generalize l[k] = x at *
   have helr := hel.gr hgr hB hBu
   obtain ⟨a, rfl, hab, _, hat⟩ := helr.at_ (k := k) (r := rowL x) (by rw [List.getElem?_map, hx]; rfl)
   have hwr := hgr.size
   have hbr' : Below wr.heap.size wr (wr.alloc (.cells #[.string x.job, .string x.node, .int .i64 x.till] 37)) := (Below.refl _ _).alloc (Nat.le_refl _) _
   have hg5 : w.grownBy (wr.alloc (.cells #[.string x.job, .string x.node, .int .i64 x.till] 37)) (some bu) := grown_trans hgr (grown_below hbr' _)
   have bx := Blk.new wr 37 #[.string x.job, .string x.node, .int .i64 x.till]
   have hub := usedBy_bd jobs HN.out x.node (l.take k)
   have hnb := HN.out x.job
   rw [List.length_take, Nat.min_eq_left (by omega)] at hub
   have hc := lease_any x gt bj bn bu jobs nodes _ _ (HT.out.below hbr') hne (by show _ ≤ usedBy jobs x.node (l.take k) ∧ usedBy jobs x.node (l.take k) ≤ _; omega) (by omega)
   have HR0 := HR.out
   rw [hdr] at HR0
   have hbw : bu < wr.heap.size := by omega
   unfold LeasePost at hc
   rw [hut] at hc
   clear hub hnb
   by_cases hE : leaseE jobs nodes x = 0
   ·have hfit := leaseE_fit hE
    rw [hE, hfit] at hc
    have HC := Lib.hid hc
    cases hbo : badOrd LeaseD.job (prevOf l k) x
    all_goals
     first
      | rw [rowsE_cons_ok _ _ _ _ _ hE hbo, ← hpv] at HR0
      | rw [rowsE_cons_ord _ _ _ _ _ hE hbo] at HR0
     have HF := Lib.hid HR0
    all_goals
     obtain rfl | ⟨j, rfl⟩ : k = 0 ∨ ∃ j, k = j + 1 := by
      rcases k with _ | j
      ·exact .inl rfl
      ·exact .inr ⟨j, rfl⟩
    ·clear hc HR0 hE hbo hdr hpv hx HR hut hfit
     go_wp2_with (refine wpList_load_at rfl _ _ rfl (a.add (0 * 3)) rfl [Value.string x.job, Value.string x.node, Value.int .i64 x.till] _ hat Tryz.underlying37 rfl lease_size ?_)
     refine HC.out.mono ?_
     rintro e w4 ⟨rfl, hg4, ht4⟩
     have HT4 := Lib.hid (ht4 trivial)
     have bx4 := bx.gr hg4 (by omega)
     have hg6 := grown_trans hg5 hg4
     clear hat ht4
     go_wp2_with fail
     go_quiet (fail)
     go_wp2_with fail
     go_roundw
     case rel => exact ⟨1, by omega, rfl, ⟨hg6.os, hg6.tape, hg6.output, hg6.size, hg6.block⟩, (show TabIs _ gt bj bn bu jobs nodes _ from HT4.out.below ((below_drewN (Below.refl _ _) _))), HF.out⟩
     case measure => simp [intOf]; omega
    ·
     have hy : l[j]? = some l[j] := List.getElem?_eq_getElem (by omega)
     have hle : leS (LeaseD.job x) (LeaseD.job l[j]) = false := by
      have : badOrd LeaseD.job (some l[j]) x = false := by rw [← hbo]; congr 1; exact hy.symm
      exact this
     generalize l[j] = y at *
     obtain ⟨a', ha', _, _, hay⟩ := helr.at_ (k := j) (r := rowL y) (by rw [List.getElem?_map, hy]; rfl)
     obtain rfl : a = a' := by injection ha'
     unfold leS at hle
     have HL := Lib.hid hle
     clear hc HR0 hE hbo hdr hpv hx hy ha' HR hle hut hfit
     go_wp2_with (refine wpList_load_at rfl _ _ rfl (a.add ((j + 1) * 3)) rfl [Value.string x.job, Value.string x.node, Value.int .i64 x.till] _ hat Tryz.underlying37 rfl lease_size ?_)
     refine HC.out.mono ?_
     rintro e w4 ⟨rfl, hg4, ht4⟩
     have HT4 := Lib.hid (ht4 trivial)
     have bx4 := bx.gr hg4 (by omega)
     have hg6 := grown_trans hg5 hg4
     have hay4 : At w4 (a.add (j * 3)) (rowL y) := (hay.below hbr' (by rw [block_of_add]; omega)).gr hg4 (by rw [block_of_add]; have := hbr'.size; omega) (by rw [block_of_add]; omega)
     clear hat hay ht4
     go_wp2_with fail
     have hwj : IntKind.i64.wrap (j : Int) = (j : Int) := IntWalk.i64_in _ (by omega)
     have hj0 : (0 : Int) ≤ (j : Int) := by omega
     have hj1 : (j : Int) < (l.length : Int) := by omega
     refine wp_region_abv (by kernel_rfl) (by kernel_rfl) ?_
     repeat (first
      | (refine wpQuiet_load_g (by first | rfl | kernel_rfl) _ _ rfl ⟨wr.heap.size, 0, none⟩ rfl [Value.string x.job, Value.string x.node, Value.int .i64 x.till] _ (fun w5 hw5 => At.blk (bx4.below hw5 bx4.lt)) Tryz.underlying37 rfl lease_size ?_; simp only [Act.put, List.setIfInBounds_toArray, List.set_cons_zero, List.set_cons_succ])
      | (refine wpQuiet_load_g (by first | rfl | kernel_rfl) _ _ rfl (a.add (j * 3)) rfl [Value.string y.job, Value.string y.node, Value.int .i64 y.till] _ (fun w5 hw5 => hay4.below hw5 (by rw [block_of_add]; have := hbr'.size; have := hg4.size; omega)) Tryz.underlying37 rfl lease_size ?_; simp only [Act.put, List.setIfInBounds_toArray, List.set_cons_zero, List.set_cons_succ])
      | (apply wpQuiet_do; (focus (first | rfl | kernel_rfl)); (focus (intro w5 hw5; unfold Oper.quietAt; go_simp; first | rfl | exact ⟨rfl, rfl⟩ | (with_reducible refine (leaseKey_any x w5).mono ?_; rintro e w8 ⟨rfl, hb8⟩; exact ⟨rfl, Abv.step hw5 hb8⟩) | (with_reducible refine (leaseKey_any y w5).mono ?_; rintro e w8 ⟨rfl, hb8⟩; exact ⟨rfl, Abv.step hw5 hb8⟩))); simp only [Act.put, List.setIfInBounds_toArray, List.set_cons_zero, List.set_cons_succ]))
     refine wpQuiet_nil ?_
     intro w7 hw7
     have hb7 : Below w4.heap.size w4 w7 := hw7
     have hl7 := HL.out
     clear hwj hj0 hj1
     generalize (Op.bytesLess (LeaseD.job x).toList (LeaseD.job y).toList || (LeaseD.job x).toList == (LeaseD.job y).toList) = bo at hl7 ⊢
     subst hl7
     go_wp2_with fail
     refine ⟨⟨j + 1 + 1, by omega, by go_num, grown_trans hg6 (grown_below hb7 _), (show TabIs _ gt bj bn bu jobs nodes _ from HT4.out.below hb7), HF.out⟩, by simp [intOf]; omega⟩
    ·exact absurd hbo (by simp [prevOf, badOrd])
    ·
     have hy : l[j]? = some l[j] := List.getElem?_eq_getElem (by omega)
     have hle : leS (LeaseD.job x) (LeaseD.job l[j]) = true := by
      have : badOrd LeaseD.job (some l[j]) x = true := by rw [← hbo]; congr 1; exact hy.symm
      exact this
     generalize l[j] = y at *
     obtain ⟨a', ha', _, _, hay⟩ := helr.at_ (k := j) (r := rowL y) (by rw [List.getElem?_map, hy]; rfl)
     obtain rfl : a = a' := by injection ha'
     unfold leS at hle
     have HL := Lib.hid hle
     clear hc HR0 hE hbo hdr hpv hx hy ha' HR hle hut hfit
     go_wp2_with (refine wpList_load_at rfl _ _ rfl (a.add ((j + 1) * 3)) rfl [Value.string x.job, Value.string x.node, Value.int .i64 x.till] _ hat Tryz.underlying37 rfl lease_size ?_)
     refine HC.out.mono ?_
     rintro e w4 ⟨rfl, hg4, ht4⟩
     have HT4 := Lib.hid (ht4 trivial)
     have bx4 := bx.gr hg4 (by omega)
     have hg6 := grown_trans hg5 hg4
     have hay4 : At w4 (a.add (j * 3)) (rowL y) := (hay.below hbr' (by rw [block_of_add]; omega)).gr hg4 (by rw [block_of_add]; have := hbr'.size; omega) (by rw [block_of_add]; omega)
     clear hat hay ht4
     go_wp2_with fail
     have hwj : IntKind.i64.wrap (j : Int) = (j : Int) := IntWalk.i64_in _ (by omega)
     have hj0 : (0 : Int) ≤ (j : Int) := by omega
     have hj1 : (j : Int) < (l.length : Int) := by omega
     refine wp_region_abv (by kernel_rfl) (by kernel_rfl) ?_
     repeat (first
      | (refine wpQuiet_load_g (by first | rfl | kernel_rfl) _ _ rfl ⟨wr.heap.size, 0, none⟩ rfl [Value.string x.job, Value.string x.node, Value.int .i64 x.till] _ (fun w5 hw5 => At.blk (bx4.below hw5 bx4.lt)) Tryz.underlying37 rfl lease_size ?_; simp only [Act.put, List.setIfInBounds_toArray, List.set_cons_zero, List.set_cons_succ])
      | (refine wpQuiet_load_g (by first | rfl | kernel_rfl) _ _ rfl (a.add (j * 3)) rfl [Value.string y.job, Value.string y.node, Value.int .i64 y.till] _ (fun w5 hw5 => hay4.below hw5 (by rw [block_of_add]; have := hbr'.size; have := hg4.size; omega)) Tryz.underlying37 rfl lease_size ?_; simp only [Act.put, List.setIfInBounds_toArray, List.set_cons_zero, List.set_cons_succ])
      | (apply wpQuiet_do; (focus (first | rfl | kernel_rfl)); (focus (intro w5 hw5; unfold Oper.quietAt; go_simp; first | rfl | exact ⟨rfl, rfl⟩ | (with_reducible refine (leaseKey_any x w5).mono ?_; rintro e w8 ⟨rfl, hb8⟩; exact ⟨rfl, Abv.step hw5 hb8⟩) | (with_reducible refine (leaseKey_any y w5).mono ?_; rintro e w8 ⟨rfl, hb8⟩; exact ⟨rfl, Abv.step hw5 hb8⟩))); simp only [Act.put, List.setIfInBounds_toArray, List.set_cons_zero, List.set_cons_succ]))
     refine wpQuiet_nil ?_
     intro w7 hw7
     have hb7 : Below w4.heap.size w4 w7 := hw7
     have hl7 := HL.out
     clear hwj hj0 hj1
     generalize (Op.bytesLess (LeaseD.job x).toList (LeaseD.job y).toList || (LeaseD.job x).toList == (LeaseD.job y).toList) = bo at hl7 ⊢
     subst hl7
     go_wp2_with fail
     go_ret
     exact ⟨by rw [HF.out]; rfl, grown_trans hg6 (grown_below hb7 _), fun h0 => by rw [HF.out] at h0; cases h0⟩
   ·rw [rowsE_cons_bad _ _ _ _ _ hE] at HR0
    have hne2 : ((leaseE jobs nodes x : Int) != 0) = true := by rw [bne_iff_ne]; omega
    have HF := Lib.hid HR0
    have HE := Lib.hid hE
    have HC := Lib.hid hc
    clear hc HR0 hE hdr hpv hx HR hut
    go_wp2_with (refine wpList_load_at rfl _ _ rfl (a.add (k * 3)) rfl [Value.string x.job, Value.string x.node, Value.int .i64 x.till] _ hat Tryz.underlying37 rfl lease_size ?_)
    refine HC.out.mono ?_
    rintro e w4 ⟨rfl, hg4, _⟩
    go_wp2_with fail
    go_ret
    exact ⟨by rw [HF.out]; rfl, grown_trans hg5 hg4, fun h0 => absurd (HF.out.symm.trans h0) HE.out⟩
  ·obtain rfl : k = l.length := by omega
   have HR0 := HR.out
   rw [List.drop_length] at HR0
   have hT1 := HT.out
   rw [List.take_length] at hT1
   have HT1 := Lib.hid hT1
   have HF := Lib.hid HR0
   clear HR0 HR hT1
   go_wp2_with fail
   go_ret
   exact ⟨by rw [HF.out]; rfl, hgr, fun _ => HT1.out⟩
end Go.Proofs.YtaioadbenigdpaaGreatDoor
