/-
  Several texts in one: DelP, DelE, EqE, IxEJ, IxEN, IxEL, IxFJ, IxFN, IxFL, DiffH, DiffJ, DiffN, DiffL.
-/
import Derived.Test.YtibiankbmhdljabGreatDoorPkOwn
import Derived.Deep.Onto
set_option linter.all false
set_option maxHeartbeats 16000000
set_option maxRecDepth 100000
namespace Go.Proofs.YtibiankbmhdljabGreatDoor
open Go.Proofs.Tryz
structure uq1 where
 frm : Int
 upto : Int
 jobs : List JobD
 nodes : List NodeD
 leases : List uqe
 gj : List ByteArray
 gn : List ByteArray
 gl : List ByteArray
 deriving DecidableEq
abbrev dv (d : uq1) (a b c e f g : Option Addr) (i j k l m n : Nat) : Array Value := #[.int .i64 d.frm, .int .i64 d.upto, .slice a d.jobs.length i, .slice b d.nodes.length j, .slice c d.leases.length k, .slice e d.gj.length l, .slice f d.gn.length m, .slice g d.gl.length n]
def setOf {α : Type} [DecidableEq α] (a b : List α) : List α := b.filter fun x => !(a.any fun y => decide (x = y))
def uqt {α : Type} (key : α -> ByteArray) (a b : List α) : List ByteArray := (a.filter fun x => !(b.any fun y => decide (key y = key x))).map key
def betw (a b : St) : uq1 :=
 ⟨a.rev, b.rev, setOf a.jobs b.jobs, setOf a.nodes b.nodes, setOf a.leases b.leases, uqt JobD.name a.jobs b.jobs, uqt NodeD.name a.nodes b.nodes, uqt uqe.job a.leases b.leases⟩
def noD : uq1 := ⟨0, 0, [], [], [], [], [], []⟩
def diffE (a b : St) : Nat := if uqq a ≠ 0 then uqq a else if uqq b ≠ 0 then uqq b else if b.rev <= a.rev then 1 else 0
def diffD (a b : St) : uq1 := if diffE a b = 0 then betw a b else noD
section
variable {α : Type} [DecidableEq α]
end
def uxw (l : uqe) : Nat := if uxc l.job && uxc l.node then (if uxd l.till 0 1099511627776 then 0 else 1) else 4
def goneE (has : ByteArray -> Bool) : Option ByteArray -> List ByteArray -> Nat
 | _, [] => 0
 | p, s :: r => if uxc s = false then 4 else if ux8 (fun s : ByteArray => s) p s = true then 8 else if has s = true then 7 else goneE has (some s) r
theorem vxh (has : ByteArray -> Bool) (p : Option ByteArray) (s : ByteArray) (r : List ByteArray) : goneE has p (s :: r) = if uxc s = false then 4 else if ux8 (fun s : ByteArray => s) p s = true then 8 else if has s = true then 7 else goneE has (some s) r := rfl
def uy1 : List Nat -> Nat
 | [] => 0
 | e :: r => if e ≠ 0 then e else uy1 r
def hasJn (l : List JobD) (s : ByteArray) : Bool := l.any fun x => decide (x.name = s)
def hasNn (l : List NodeD) (s : ByteArray) : Bool := l.any fun x => decide (x.name = s)
def hasLn (l : List uqe) (s : ByteArray) : Bool := l.any fun x => decide (x.job = s)
def uzj (d : uq1) : List Nat :=
 [rowsE JobD.name jobE none d.jobs, rowsE NodeD.name nodeE none d.nodes, rowsE uqe.job uxw none d.leases, goneE (hasJn d.jobs) none d.gj, goneE (hasNn d.nodes) none d.gn, goneE (hasLn d.leases) none d.gl]
def revOk (d : uq1) : Prop := (0 <= d.frm ∧ d.frm <= 1099511627776) ∧ d.frm + 1 <= d.upto ∧ d.upto <= 1099511627776
def lenOk (d : uq1) : Prop := (d.jobs.length <= 40 ∧ d.leases.length <= 40 ∧ d.gj.length <= 40 ∧ d.gl.length <= 40) ∧ d.nodes.length <= 20 ∧ d.gn.length <= 20
instance (d : uq1) : Decidable (revOk d) := by unfold revOk; infer_instance
instance (d : uq1) : Decidable (lenOk d) := by unfold lenOk; infer_instance
def uxh (d : uq1) : Nat := if ¬ revOk d then 1 else if ¬ lenOk d then 2 else uy1 (uzj d)
theorem vjd : ∀ {l : List Nat}, uy1 l = 0 -> ∀ e ∈ l, e = 0
 | [], _, e, h => by cases h
 | x :: r, h, e, he => by
  unfold uy1 at h
  by_cases hx : x ≠ 0
  ·rw [if_pos hx] at h; exact absurd h hx
  ·rw [if_neg hx] at h
   rcases List.mem_cons.1 he with rfl | he
   ·omega
   ·exact vjd h e he
theorem uwg {has : ByteArray -> Bool} : ∀ {l : List ByteArray} {p : Option ByteArray}, goneE has p l = 0 -> ∀ s ∈ l, uxc s = true
 | [], _, _, s, h => by cases h
 | x :: r, p, h, s, hs => by
  unfold goneE at h
  split at h
  ·cases h
  rename_i h1
  split at h
  ·cases h
  split at h
  ·cases h
  rcases List.mem_cons.1 hs with rfl | hs
  ·cases hn : uxc s
   ·exact absurd hn h1
   ·rfl
  ·exact uwg h s hs
theorem vz8 {d : uq1} (h : uxh d = 0) : revOk d ∧ lenOk d ∧ ∀ e ∈ uzj d, e = 0 := by
 unfold uxh at h
 by_cases h1 : revOk d
 ·rw [if_neg (by simpa using h1)] at h
  by_cases h2 : lenOk d
  ·rw [if_neg (by simpa using h2)] at h
   exact ⟨h1, h2, vjd h⟩
  ·rw [if_pos h2] at h; cases h
 ·rw [if_pos h1] at h; cases h
open Go.RowKit
section
variable {P : Program} {ops : Array Oper} {C : World -> Prop} {Q : Act -> Prop} {o : Oper} {rest : List Oper} {a : Act}
end
theorem sIxFJ1 {p : Prop} (h : p := by
 have HF := zrj hf.calls
 have hen := hf.enter
 clear hf
 go_enter Z1, Z2
 go_wp2_with fail
 go_loopw [8] (fun i wr => ∃ k : Nat, k <= l.length ∧ i = .int .i64 k ∧ Below w.heap.size w wr ∧ Hid (pIx f l 0 = pIx f (l.drop k) k)) (fun i _ => l.length - (intOf i).toNat)
 case atStart => exact ⟨0, Nat.zero_le _, rfl, zri _ _, (show _ = _ from rfl)⟩
 case round =>
  obtain ⟨k, hk, rfl, hbr, HR⟩ := hrel
  by_cases hlt : k < l.length
  ·have hx : l[k]? = some l[k] := zrd hlt
   have hc := HF.out l[k] (List.getElem_mem hlt) wr hbr
   have hdr := uy0 l k _ hx
   generalize l[k] = x at *
   obtain ⟨a, rfl, hab, _, hat⟩ := (hel.below hbr).at_ (k := k) (r := Z3 x) (by rw [zrg, hx]; rfl)
   have HR0 := HR.out
   rw [hdr, uvr] at HR0
   cases hp : f x
   ·rw [hp] at hc HR0
    rw [if_neg (by simp)] at HR0
    have HC := zrj hc
    have HR1 := zrj HR0
    clear hc HR0 HR hdr hx hp
    go_wp2_with (refine uqd rfl _ _ rfl (a.add (k * Z4)) rfl (Z5 x) _ hat Z6 rfl Z7 ?_)
    refine HC.out.mono ?_
    rintro e w1 ⟨rfl, hb1⟩
    have hB := hbr.trans (hb1.mono hbr.size)
    clear hb1 hat
    go_wp2_with fail
    go_roundw
    case rel => exact ⟨k + 1, by (first | omega | (simp only [Z4] at *; omega)), by go_num, hB, HR1.out⟩
    case measure => simp [intOf]; (first | omega | (simp only [Z4] at *; omega))
   ·rw [hp] at hc HR0
    rw [if_pos rfl] at HR0
    have HC := zrj hc
    have HR1 := zrj HR0
    clear hc HR0 HR hdr hx hp
    go_wp2_with (refine uqd rfl _ _ rfl (a.add (k * Z4)) rfl (Z5 x) _ hat Z6 rfl Z7 ?_)
    refine HC.out.mono ?_
    rintro e w1 ⟨rfl, hb1⟩
    have hB := hbr.trans (hb1.mono hbr.size)
    clear hb1 hat
    go_wp2_with fail
    go_ret
    exact ⟨by rw [HR1.out]; rfl, hB⟩
  ·obtain rfl : k = l.length := by (first | omega | (simp only [Z4] at *; omega))
   have HR0 := HR.out
   rw [List.drop_length] at HR0
   have HR1 := zrj HR0
   clear HR0 HR
   go_wp2_with fail
   go_ret
   exact ⟨by rw [HR1.out]; rfl, hbr⟩) : p := h
theorem sIxFJ2 {p : Prop} (h : p := by
 have hc := Z8 K caps f p c l w hel hl hf
 have ha := vqd f l 0
 have hbd := vju f l 0
 generalize pIx f l 0 = n at *
 have HC := zrj hc
 have HA := zrj ha
 clear hc ha hf hel
 go_enter Z9, Z10
 go_wp2_with fail
 refine HC.out.mono ?_
 rintro e w1 ⟨rfl, hb1⟩
 go_wp2_with fail
 go_ret
 exact ⟨by rw [<- HA.out]; rfl, hb1⟩) : p := h
@[simp] abbrev cIxFJ0J : Nat := 5
@[simp] abbrev cIxFJ0N : Nat := 3
@[simp] abbrev cIxFJ0L : Nat := 3
section
open Go.RowKit
open YtibiankbmhdljabGreatDoor renaming rowJ -> Z3, cIxFJ0J -> Z4, rlJ -> Z5, uqo -> Z7
open Go.Proofs.Tryz renaming func169 -> Z1, ntmps169 -> Z2, underlying62 -> Z6
theorem wzb (K : FuncId) (caps : Array Value) (f : JobD -> Bool) (p : Option Addr) (c : Nat) (l : List JobD) (w : World) (hel : Elts w w.heap.size 5 p (l.map rowJ)) (hl : l.length <= 4611686018427387904) (hf : FnOk prog w K caps rowJ f l) :
  Calls prog 169 #[.slice p l.length c, .func (.func K) #[] caps] w fun e w' => e = .returned (.int .i64 (pIx f l 0)) ∧ Below w.heap.size w w' := sIxFJ1
open YtibiankbmhdljabGreatDoor renaming wzb -> Z8
open Go.Proofs.Tryz renaming func127 -> Z9, ntmps127 -> Z10
theorem uyx (K : FuncId) (caps : Array Value) (f : JobD -> Bool) (p : Option Addr) (c : Nat) (l : List JobD) (w : World) (hel : Elts w w.heap.size 5 p (l.map rowJ)) (hl : l.length <= 4611686018427387904) (hf : FnOk prog w K caps rowJ f l) :
  Calls prog 127 #[.slice p l.length c, .func (.func K) #[] caps] w fun e w' => e = .returned (.bool (l.any f)) ∧ Below w.heap.size w w' := sIxFJ2
end
section
open Go.RowKit
open YtibiankbmhdljabGreatDoor renaming rowN -> Z3, cIxFJ0N -> Z4, rlN -> Z5, uql -> Z7
open Go.Proofs.Tryz renaming func170 -> Z1, ntmps170 -> Z2, underlying64 -> Z6
theorem wzd (K : FuncId) (caps : Array Value) (f : NodeD -> Bool) (p : Option Addr) (c : Nat) (l : List NodeD) (w : World) (hel : Elts w w.heap.size 3 p (l.map rowN)) (hl : l.length <= 4611686018427387904) (hf : FnOk prog w K caps rowN f l) :
  Calls prog 170 #[.slice p l.length c, .func (.func K) #[] caps] w fun e w' => e = .returned (.int .i64 (pIx f l 0)) ∧ Below w.heap.size w w' := sIxFJ1
open YtibiankbmhdljabGreatDoor renaming wzd -> Z8
open Go.Proofs.Tryz renaming func129 -> Z9, ntmps129 -> Z10
theorem uyz (K : FuncId) (caps : Array Value) (f : NodeD -> Bool) (p : Option Addr) (c : Nat) (l : List NodeD) (w : World) (hel : Elts w w.heap.size 3 p (l.map rowN)) (hl : l.length <= 4611686018427387904) (hf : FnOk prog w K caps rowN f l) :
  Calls prog 129 #[.slice p l.length c, .func (.func K) #[] caps] w fun e w' => e = .returned (.bool (l.any f)) ∧ Below w.heap.size w w' := sIxFJ2
end
section
open Go.RowKit
open YtibiankbmhdljabGreatDoor renaming rowL -> Z3, cIxFJ0L -> Z4, rlL -> Z5, uqm -> Z7
open Go.Proofs.Tryz renaming func171 -> Z1, ntmps171 -> Z2, underlying66 -> Z6
theorem wzc (K : FuncId) (caps : Array Value) (f : uqe -> Bool) (p : Option Addr) (c : Nat) (l : List uqe) (w : World) (hel : Elts w w.heap.size 3 p (l.map rowL)) (hl : l.length <= 4611686018427387904) (hf : FnOk prog w K caps rowL f l) :
  Calls prog 171 #[.slice p l.length c, .func (.func K) #[] caps] w fun e w' => e = .returned (.int .i64 (pIx f l 0)) ∧ Below w.heap.size w w' := sIxFJ1
open YtibiankbmhdljabGreatDoor renaming wzc -> Z8
open Go.Proofs.Tryz renaming func131 -> Z9, ntmps131 -> Z10
theorem uyy (K : FuncId) (caps : Array Value) (f : uqe -> Bool) (p : Option Addr) (c : Nat) (l : List uqe) (w : World) (hel : Elts w w.heap.size 3 p (l.map rowL)) (hl : l.length <= 4611686018427387904) (hf : FnOk prog w K caps rowL f l) :
  Calls prog 131 #[.slice p l.length c, .func (.func K) #[] caps] w fun e w' => e = .returned (.bool (l.any f)) ∧ Below w.heap.size w w' := sIxFJ2
end
theorem uvq {w : World} {base : Nat} {e : TypeId} {size n : Nat} {v : Value} {xs : List Value} (h : w.ownsRow base e size v n xs) : ∃ p c, v = .slice p n c := by
 rcases h.2 with ⟨rfl, h0⟩ | ⟨g, cap, cur, rfl, _⟩
 ·exact ⟨none, 0, by rw [h0]⟩
 ·exact ⟨_, cap, rfl⟩
theorem OwnR.lower {w : World} {base b c size : Nat} {E : TypeId} {p : Option Addr} {rows : List (List Value)} (h : OwnR w base E size p c rows) (hb : b <= base) : OwnR w b E size p c rows := ⟨h.1, World.ownsRow.mono h.2 hb⟩
def ww5 (w : World) (a b : List JobD) (e : Ending) (w' : World) : Prop :=
 ∃ p1 c1 p2 c2, e = .returned (.tuple #[.slice p1 (setOf a b).length c1, .slice p2 (uqt JobD.name a b).length c2]) ∧ OwnR w' w.heap.size 62 5 p1 c1 ((setOf a b).map rowJ) ∧ OwnR w' w.heap.size 9 1 p2 c2 ((uqt JobD.name a b).map rowS) ∧ Below w.heap.size w w'
def ww7 (w : World) (a b : List NodeD) (e : Ending) (w' : World) : Prop :=
 ∃ p1 c1 p2 c2, e = .returned (.tuple #[.slice p1 (setOf a b).length c1, .slice p2 (uqt NodeD.name a b).length c2]) ∧ OwnR w' w.heap.size 64 3 p1 c1 ((setOf a b).map rowN) ∧ OwnR w' w.heap.size 9 1 p2 c2 ((uqt NodeD.name a b).map rowS) ∧ Below w.heap.size w w'
def ww6 (w : World) (a b : List uqe) (e : Ending) (w' : World) : Prop :=
 ∃ p1 c1 p2 c2, e = .returned (.tuple #[.slice p1 (setOf a b).length c1, .slice p2 (uqt uqe.job a b).length c2]) ∧ OwnR w' w.heap.size 66 3 p1 c1 ((setOf a b).map rowL) ∧ OwnR w' w.heap.size 9 1 p2 c2 ((uqt uqe.job a b).map rowS) ∧ Below w.heap.size w w'
end Go.Proofs.YtibiankbmhdljabGreatDoor
