/-
  Plain mathematics of states: jobs, nodes, leases, what may be.
-/
import Derived.Test.YtoepchgoacdodaaDoorRows0
import Derived.Lib.ValidAsc
set_option linter.unusedVariables false
set_option linter.unusedSimpArgs false
namespace Go.Proofs.YtoepchgoacdodaaDoor
structure JobD where
  name : ByteArray
  prio : Int
  need : Int
  tries : Int
  tag : ByteArray
  deriving DecidableEq
structure NodeD where
  name : ByteArray
  room : Int
  zone : ByteArray
  deriving DecidableEq
structure LeaseD where
  job : ByteArray
  node : ByteArray
  till : Int
  deriving DecidableEq
structure St where
  rev : Int
  jobs : List JobD
  nodes : List NodeD
  leases : List LeaseD
  deriving DecidableEq
def rowJ (j : JobD) : List Value := [.string j.name, .int .i64 j.prio, .int .i64 j.need, .int .i64 j.tries, .string j.tag]
def rowN (n : NodeD) : List Value := [.string n.name, .int .i64 n.room, .string n.zone]
def rowL (l : LeaseD) : List Value := [.string l.job, .string l.node, .int .i64 l.till]

/-- Is n within bounds? -/
def withinB (n a b : Int) : Bool := decide (a ≤ n) && decide (n ≤ b)
theorem withinB_iff {n a b : Int} : withinB n a b = true ↔ a ≤ n ∧ n ≤ b := by simp [withinB]
/-- May it be a text, a name? -/
def textOk (s : ByteArray) : Bool := decide (s.size ≤ 16) && Lib.validD s.data.toList
def nameOk (s : ByteArray) : Bool := decide (0 < s.size) && textOk s
def jobE (j : JobD) : Nat := if nameOk j.name && textOk j.tag then (if withinB j.prio (-1000) 1000 && withinB j.need 0 1000000 && withinB j.tries 0 100 then 0 else 1) else 4
def nodeE (n : NodeD) : Nat := if nameOk n.name && textOk n.zone then (if withinB n.room 0 1000000 then 0 else 1) else 4
/-- Is a no greater than b? -/
def leS (a b : ByteArray) : Bool := Op.bytesLess a.toList b.toList || a.toList == b.toList
section
variable {α : Type} (key : α → ByteArray) (chk : α → Nat)
def badOrd : Option α → α → Bool
  | none, _ => false
  | some y, x => leS (key x) (key y)
/-- Rows of a table: the first thing that is wrong. -/
def rowsE : Option α → List α → Nat
  | _, [] => 0
  | p, x :: r => if chk x ≠ 0 then chk x else if badOrd key p x = true then 8 else rowsE (some x) r
end
def prevOf {α : Type} (l : List α) : Nat → Option α
  | 0 => none
  | k + 1 => l[k]?
def jobAt (l : List JobD) (name : ByteArray) : Option JobD := l.find? fun j => decide (j.name = name)
def nodeAt (l : List NodeD) (name : ByteArray) : Option NodeD := l.find? fun n => decide (n.name = name)
/-- A lease alone, in a state. -/
def leaseE (jobs : List JobD) (nodes : List NodeD) (l : LeaseD) : Nat :=
  if (jobAt jobs l.job).isSome && (nodeAt nodes l.node).isSome then (if withinB l.till 0 1099511627776 then 0 else 1) else 6
def needOf (jobs : List JobD) (name : ByteArray) : Int := ((jobAt jobs name).map (·.need)).getD 0
/-- What leases take of a node. -/
def usedBy (jobs : List JobD) (node : ByteArray) : List LeaseD → Int
  | [] => 0
  | l :: r => (if l.node = node then needOf jobs l.job else 0) + usedBy jobs node r
def roomOk (s : St) : Bool := s.nodes.all fun n => decide (usedBy s.jobs n.name s.leases ≤ n.room)
/-- What is wrong with a state (0: nothing). -/
def checkE (s : St) : Nat :=
  if withinB s.rev 0 1099511627776 = false then 1 else
  if 40 < s.jobs.length ∨ 40 < s.leases.length ∨ 20 < s.nodes.length then 2 else
  if rowsE JobD.name jobE none s.jobs ≠ 0 then rowsE JobD.name jobE none s.jobs else
  if rowsE NodeD.name nodeE none s.nodes ≠ 0 then rowsE NodeD.name nodeE none s.nodes else
  if rowsE LeaseD.job (leaseE s.jobs s.nodes) none s.leases ≠ 0 then rowsE LeaseD.job (leaseE s.jobs s.nodes) none s.leases else
  if roomOk s then 0 else 9
end Go.Proofs.YtoepchgoacdodaaDoor
