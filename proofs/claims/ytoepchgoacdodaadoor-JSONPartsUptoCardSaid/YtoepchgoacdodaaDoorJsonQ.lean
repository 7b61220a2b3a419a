/-
 Plain: states as they are printed, and parsed. No program.
-/
import Derived.Test.YtoepchgoacdodaaDoorJsonP
import Derived.Test.YtoepchgoacdodaaDoorStOk
set_option linter.unusedVariables false
set_option linter.unusedSimpArgs false
namespace Go.Proofs.YtoepchgoacdodaaDoor
def nName : ByteArray := ⟨#[110, 97, 109, 101]⟩
def nPrio : ByteArray := ⟨#[112, 114, 105, 111]⟩
def nNeed : ByteArray := ⟨#[110, 101, 101, 100]⟩
def nTries : ByteArray := ⟨#[116, 114, 105, 101, 115]⟩
def nTag : ByteArray := ⟨#[116, 97, 103]⟩
def nRoom : ByteArray := ⟨#[114, 111, 111, 109]⟩
def nZone : ByteArray := ⟨#[122, 111, 110, 101]⟩
def nJob : ByteArray := ⟨#[106, 111, 98]⟩
def nNode : ByteArray := ⟨#[110, 111, 100, 101]⟩
def nUntil : ByteArray := ⟨#[117, 110, 116, 105, 108]⟩
def nJobs : ByteArray := ⟨#[106, 111, 98, 115]⟩
def nNodes : ByteArray := ⟨#[110, 111, 100, 101, 115]⟩
def nLeases : ByteArray := ⟨#[108, 101, 97, 115, 101, 115]⟩
def hdrJ : List UInt8 := [123, 34, 114, 101, 118, 34, 58]
def specJ : Spec := [(nName, false), (nPrio, true), (nNeed, true), (nTries, true), (nTag, false)]
def specN : Spec := [(nName, false), (nRoom, true), (nZone, false)]
def specL : Spec := [(nJob, false), (nNode, false), (nUntil, true)]
def fvJ (j : JobD) : List (ByteArray × FV) := [(nName, .txt j.name), (nPrio, .num j.prio), (nNeed, .num j.need), (nTries, .num j.tries), (nTag, .txt j.tag)]
def fvN (n : NodeD) : List (ByteArray × FV) := [(nName, .txt n.name), (nRoom, .num n.room), (nZone, .txt n.zone)]
def fvL (l : LeaseD) : List (ByteArray × FV) := [(nJob, .txt l.job), (nNode, .txt l.node), (nUntil, .num l.till)]
def toJ : List FV → JobD
 | [.txt a, .num p, .num n, .num t, .txt g] => ⟨a, p, n, t, g⟩
 | _ => ⟨ByteArray.empty, 0, 0, 0, ByteArray.empty⟩
def toN : List FV → NodeD
 | [.txt a, .num p, .txt g] => ⟨a, p, g⟩
 | _ => ⟨ByteArray.empty, 0, ByteArray.empty⟩
def toL : List FV → LeaseD
 | [.txt a, .txt g, .num p] => ⟨a, g, p⟩
 | _ => ⟨ByteArray.empty, ByteArray.empty, 0⟩
def jobsB (l : List JobD) : List UInt8 := arrB nJobs ((l.map fvJ).map objB)
def nodesB (l : List NodeD) : List UInt8 := arrB nNodes ((l.map fvN).map objB)
def leasesB (l : List LeaseD) : List UInt8 := arrB nLeases ((l.map fvL).map objB)
def printL (s : St) : List UInt8 := hdrJ ++ (Lib.itoa s.rev ++ (jobsB s.jobs ++ (nodesB s.nodes ++ (leasesB s.leases ++ [125]))))
def readL (t : List UInt8) : St × RdS :=
 let r := numR (mustL hdrJ (t, false))
 let a := elR specJ nJobs r.2
 let b := elR specN nNodes a.2
 let c := elR specL nLeases b.2
 (⟨r.1, a.1.map toJ, b.1.map toN, c.1.map toL⟩, mustL [125] c.2)
def parseE (t : List UInt8) : Nat :=
 if 60000 < t.length then 2 else if (readL t).2.2 = true ∨ (readL t).2.1 ≠ [] ∨ checkE (readL t).1 ≠ 0 ∨ printL (readL t).1 ≠ t then 4 else 0
theorem jobE_int {j : JobD} (h : jobE j = 0) : (-9223372036854775808 ≤ j.prio ∧ j.prio ≤ 9223372036854775807) ∧ (-9223372036854775808 ≤ j.need ∧ j.need ≤ 9223372036854775807) ∧ (-9223372036854775808 ≤ j.tries ∧ j.tries ≤ 9223372036854775807) := by
 unfold jobE at h
 split at h
 · split at h
   · rename_i h2; simp only [Bool.and_eq_true, withinB_iff] at h2; omega
   · cases h
 · cases h
theorem nodeE_int {n : NodeD} (h : nodeE n = 0) : -9223372036854775808 ≤ n.room ∧ n.room ≤ 9223372036854775807 := by
 unfold nodeE at h
 split at h
 · split at h
   · rename_i h2; simp only [withinB_iff] at h2; omega
   · cases h
 · cases h
theorem readL_print (s : St) (F : Fine s) (hl : ∀ x ∈ s.leases, -9223372036854775808 ≤ x.till ∧ x.till ≤ 9223372036854775807) (m : List UInt8) : readL (printL s ++ m) = (s, m, false) := by
 have e0 : mustL hdrJ (printL s ++ m, false) = (Lib.itoa s.rev ++ (jobsB s.jobs ++ (nodesB s.nodes ++ (leasesB s.leases ++ ([125] ++ m)))), false) := by
  rw [← mustL_app hdrJ (Lib.itoa s.rev ++ (jobsB s.jobs ++ (nodesB s.nodes ++ (leasesB s.leases ++ ([125] ++ m)))))]; congr 2; simp [printL]
 have e1 := numR_app s.rev (by have := F.rev.1; omega) (by have := F.rev.2; omega) (jobsB s.jobs ++ (nodesB s.nodes ++ (leasesB s.leases ++ ([125] ++ m)))) (by show sep (44 :: _); exact sep_cons (by decide) _)
 have e2 := elR_app specJ nJobs (s.jobs.map fvJ) (by intro l h; obtain ⟨j, _, rfl⟩ := List.mem_map.1 h; rfl)
  (by intro l h x hx; obtain ⟨j, hj, rfl⟩ := List.mem_map.1 h; have := jobE_int (F.j j hj); simp only [fvJ, List.mem_cons, List.not_mem_nil, or_false] at hx; rcases hx with rfl | rfl | rfl | rfl | rfl <;> simp only [FV.ok] <;> omega)
  (nodesB s.nodes ++ (leasesB s.leases ++ ([125] ++ m)))
 have e3 := elR_app specN nNodes (s.nodes.map fvN) (by intro l h; obtain ⟨j, _, rfl⟩ := List.mem_map.1 h; rfl)
  (by intro l h x hx; obtain ⟨j, hj, rfl⟩ := List.mem_map.1 h; have := nodeE_int (F.n j hj); simp only [fvN, List.mem_cons, List.not_mem_nil, or_false] at hx; rcases hx with rfl | rfl | rfl <;> simp only [FV.ok] <;> omega)
  (leasesB s.leases ++ ([125] ++ m))
 have e4 := elR_app specL nLeases (s.leases.map fvL) (by intro l h; obtain ⟨j, _, rfl⟩ := List.mem_map.1 h; rfl)
  (by intro l h x hx; obtain ⟨j, hj, rfl⟩ := List.mem_map.1 h; have := hl j hj; simp only [fvL, List.mem_cons, List.not_mem_nil, or_false] at hx; rcases hx with rfl | rfl | rfl <;> simp only [FV.ok] <;> omega)
  ([125] ++ m)
 unfold readL
 simp only
 rw [e0, e1]
 simp only
 rw [show jobsB s.jobs = arrB nJobs ((s.jobs.map fvJ).map objB) from rfl, e2]
 simp only
 rw [show nodesB s.nodes = arrB nNodes ((s.nodes.map fvN).map objB) from rfl, e3]
 simp only
 rw [show leasesB s.leases = arrB nLeases ((s.leases.map fvL).map objB) from rfl, e4]
 simp only
 rw [mustL_app]
 have m1 : ((s.jobs.map fvJ).map (fun l => l.map (·.2))).map toJ = s.jobs := by
  rw [List.map_map, List.map_map]
  exact (List.map_congr_left (fun x _ => rfl)).trans (List.map_id _)
 have m2 : ((s.nodes.map fvN).map (fun l => l.map (·.2))).map toN = s.nodes := by
  rw [List.map_map, List.map_map]
  exact (List.map_congr_left (fun x _ => rfl)).trans (List.map_id _)
 have m3 : ((s.leases.map fvL).map (fun l => l.map (·.2))).map toL = s.leases := by
  rw [List.map_map, List.map_map]
  exact (List.map_congr_left (fun x _ => rfl)).trans (List.map_id _)
 rw [m1, m2, m3]
theorem fine_till {s : St} (F : Fine s) : ∀ x ∈ s.leases, -9223372036854775808 ≤ x.till ∧ x.till ≤ 9223372036854775807 := by
 intro x hx
 have h := F.l x hx
 unfold leaseE at h
 repeat' split at h
 all_goals first
  | (cases h; done)
  | (simp only [withinB_iff, Bool.and_eq_true, Bool.not_eq_true', Bool.not_eq_false] at *; omega)
theorem parse_print {s : St} (F : Fine s) (h : (printL s).length ≤ 60000) : parseE (printL s) = 0 ∧ (readL (printL s)).1 = s := by
 have e := readL_print s F (fine_till F) []
 rw [List.append_nil] at e
 unfold parseE
 rw [if_neg (by omega), e]
 refine ⟨if_neg ?_, rfl⟩
 simp [(fine_iff s).2 F]
theorem parse_ok {t : List UInt8} (h : parseE t = 0) : Fine (readL t).1 ∧ printL (readL t).1 = t ∧ t.length ≤ 60000 := by
 unfold parseE at h
 split at h
 · cases h
 · split at h
   · cases h
   · rename_i h1 h2
     simp only [not_or, Classical.not_not] at h2
     exact ⟨(fine_iff _).1 h2.2.2.1, h2.2.2.2, by omega⟩
/-- Nothing behind what was printed, nothing less. -/
theorem print_whole {s r : St} (F : Fine s) (G : Fine r) {m : List UInt8} (h : printL s = printL r ++ m) : s = r ∧ m = [] := by
 have e := readL_print s F (fine_till F) []
 rw [List.append_nil, h, readL_print r G (fine_till G) m] at e
 injection e with e1 e2
 injection e2 with e2 _
 exact ⟨e1.symm, e2⟩
theorem parse_cut {s : St} (F : Fine s) (h : (printL s).length ≤ 60000) {k : Nat} (hk : k < (printL s).length) : parseE ((printL s).take k) = 4 := by
 by_cases h0 : parseE ((printL s).take k) = 0
 · obtain ⟨G, e, _⟩ := parse_ok h0
   have := print_whole F G (m := (printL s).drop k) (by rw [e, List.take_append_drop])
   have := congrArg List.length this.2
   simp at this; omega
 · unfold parseE at h0 ⊢
   rw [if_neg (by simp; omega)] at h0 ⊢
   split at h0
   · rename_i h1; rw [if_pos h1]
   · exact absurd rfl h0
theorem parse_more {s : St} (F : Fine s) (h : (printL s).length ≤ 60000) (m : List UInt8) : parseE (printL s ++ m) = 0 ↔ m = [] := by
 constructor
 · intro h0
   obtain ⟨G, e, _⟩ := parse_ok h0
   have e2 := readL_print s F (fine_till F) m
   by_cases hm : m = []
   · exact hm
   · unfold parseE at h0
     rw [e2] at h0
     split at h0
     · cases h0
     · rw [if_pos (by simp [hm])] at h0; cases h0
 · rintro rfl; rw [List.append_nil]; exact (parse_print F h).1
end Go.Proofs.YtoepchgoacdodaaDoor
