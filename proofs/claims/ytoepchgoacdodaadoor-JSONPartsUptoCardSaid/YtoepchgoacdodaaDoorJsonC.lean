/-
 Contracts of package json: Print.
-/
import Derived.Test.YtoepchgoacdodaaDoorJsonB
import Derived.Test.YtoepchgoacdodaaDoorStateW
import Derived.Test.YtoepchgoacdodaaDoorJsonI
import Derived.Lib.SmallJoins
set_option linter.unusedVariables false
set_option linter.unusedSimpArgs false
namespace Go.Proofs.YtoepchgoacdodaaDoor
open Go.RowKit Go.Joins
theorem textOk16 {s : ByteArray} (h : textOk s = true) : s.size ≤ 16 := by
  unfold textOk at h; simp only [Bool.and_eq_true, decide_eq_true_eq] at h; exact h.1
theorem nameOk16 {s : ByteArray} (h : nameOk s = true) : s.size ≤ 16 := by
  unfold nameOk at h; simp only [Bool.and_eq_true, decide_eq_true_eq] at h; exact textOk16 h.2
theorem fine_smJ {s : St} (F : Fine s) : ∀ x ∈ s.jobs, smJ x := by
  intro x hx
  have h := F.j x hx
  have hi := jobE_int h
  unfold jobE at h
  split at h
  · rename_i h1
    simp only [Bool.and_eq_true] at h1
    exact ⟨nameOk16 h1.1, textOk16 h1.2, hi.1, hi.2.1, hi.2.2⟩
  · cases h
theorem fine_smN {s : St} (F : Fine s) : ∀ x ∈ s.nodes, smN x := by
  intro x hx
  have h := F.n x hx
  have hi := nodeE_int h
  unfold nodeE at h
  split at h
  · rename_i h1
    simp only [Bool.and_eq_true] at h1
    exact ⟨nameOk16 h1.1, textOk16 h1.2, hi⟩
  · cases h
theorem fine_smL {s : St} (F : Fine s) : ∀ x ∈ s.leases, smL x := by
  intro x hx
  have ht := fine_till F x hx
  have h := F.l x hx
  unfold leaseE at h
  split at h
  · rename_i h1
    simp only [Bool.and_eq_true, Option.isSome_iff_exists] at h1
    obtain ⟨⟨j, hj⟩, ⟨n, hn⟩⟩ := h1
    unfold jobAt at hj
    unfold nodeAt at hn
    have j1 := List.find?_some hj
    have j2 := List.mem_of_find?_eq_some hj
    have n1 := List.find?_some hn
    have n2 := List.mem_of_find?_eq_some hn
    simp only [decide_eq_true_eq] at j1 n1
    exact ⟨by rw [← j1]; exact (fine_smJ F j j2).1, by rw [← n1]; exact (fine_smN F n n2).1, ht⟩
  · cases h
theorem Buf.base {U : TypeId} {w : World} {b c : Nat} {v : Value} {l : List UInt8} (h : Buf U w b v l) (hc : c ≤ b) : Buf U w c v l :=
  ⟨h.1, h.2.elim Or.inl (fun ⟨g, cap, cur, hv, hg, r⟩ => Or.inr ⟨g, cap, cur, hv, Nat.le_trans hc hg, r⟩)⟩
theorem arrB_len (name : ByteArray) (ls : List (List UInt8)) (hn : name.size ≤ 16) (hl : ls.length ≤ 40) (h : ∀ x ∈ ls, x.length ≤ 1107) : (arrB name ls).length ≤ 50000 := by
  have h1 := rowsJ_len2 ls h
  have h2 := quoteL_len name.data.toList
  rw [bl_len] at h2
  unfold arrB; simp only [List.length_cons, List.length_append, List.length_nil]; omega
theorem objs_len (l : List JobD) (h : ∀ x ∈ l, smJ x) : ∀ y ∈ (l.map fvJ).map objB, y.length ≤ 1107 := by
  intro y hy
  obtain ⟨z, hz, rfl⟩ := List.mem_map.1 hy
  obtain ⟨x, hx, rfl⟩ := List.mem_map.1 hz
  exact objB_len (fldsJ ⟨0, 0, none⟩ x) (show (5 : Nat) ≤ 5 by decide) (smallJ (h x hx) _)
theorem objsN_len (l : List NodeD) (h : ∀ x ∈ l, smN x) : ∀ y ∈ (l.map fvN).map objB, y.length ≤ 1107 := by
  intro y hy
  obtain ⟨z, hz, rfl⟩ := List.mem_map.1 hy
  obtain ⟨x, hx, rfl⟩ := List.mem_map.1 hz
  exact objB_len (fldsN ⟨0, 0, none⟩ x) (show (3 : Nat) ≤ 5 by decide) (smallN (h x hx) _)
theorem objsL_len (l : List LeaseD) (h : ∀ x ∈ l, smL x) : ∀ y ∈ (l.map fvL).map objB, y.length ≤ 1107 := by
  intro y hy
  obtain ⟨z, hz, rfl⟩ := List.mem_map.1 hy
  obtain ⟨x, hx, rfl⟩ := List.mem_map.1 hz
  exact objB_len (fldsL ⟨0, 0, none⟩ x) (show (3 : Nat) ≤ 5 by decide) (smallL (h x hx) _)
set_option maxHeartbeats 8000000 in
set_option maxRecDepth 100000 in
theorem printed_any (s : St) (p1 p2 p3 : Option Addr) (c1 c2 c3 : Nat) (w : World) (hm : StM w w.heap.size p1 p2 p3 s) (F : Fine s) (hP : LibP w.heap.size w) :
    Calls Tryd.prog 10 #[.agg #[.int .i64 s.rev, .slice p1 s.jobs.length c1, .slice p2 s.nodes.length c2, .slice p3 s.leases.length c3]] w fun e w' => e = .returned (.string (bstr (printL s))) ∧ Below w.heap.size w w' := by
  have bx0 := (Blk.new w 32 #[.int .i64 s.rev, .slice p1 s.jobs.length c1, .slice p2 s.nodes.length c2, .slice p3 s.leases.length c3]).alloc (.cells #[.int .u8 123, .int .u8 34, .int .u8 114, .int .u8 101, .int .u8 118, .int .u8 34, .int .u8 58] 5 (7, 8))
  have hB0 : Below w.heap.size w ((w.alloc (.cells #[.int .i64 s.rev, .slice p1 s.jobs.length c1, .slice p2 s.nodes.length c2, .slice p3 s.leases.length c3] 32)).alloc (.cells #[.int .u8 123, .int .u8 34, .int .u8 114, .int .u8 101, .int .u8 118, .int .u8 34, .int .u8 58] 5 (7, 8))) := ((Below.refl _ _).alloc (Nat.le_refl _) _).alloc (by simp) _
  have hcv : (convert 33 33 (.slice (some ⟨w.heap.size + 1, 0, none⟩) 7 7)).run Tryd.prog ((w.alloc (.cells #[.int .i64 s.rev, .slice p1 s.jobs.length c1, .slice p2 s.nodes.length c2, .slice p3 s.leases.length c3] 32)).alloc (.cells #[.int .u8 123, .int .u8 34, .int .u8 114, .int .u8 101, .int .u8 118, .int .u8 34, .int .u8 58] 5)) = .ok (.slice (some ⟨w.heap.size + 1, 0, none⟩) 7 7) ((w.alloc (.cells #[.int .i64 s.rev, .slice p1 s.jobs.length c1, .slice p2 s.nodes.length c2, .slice p3 s.leases.length c3] 32)).alloc (.cells #[.int .u8 123, .int .u8 34, .int .u8 114, .int .u8 101, .int .u8 118, .int .u8 34, .int .u8 58] 5 (7, 8))) :=
    run_convert_bytes_const_at (w.alloc (.cells #[.int .i64 s.rev, .slice p1 s.jobs.length c1, .slice p2 s.nodes.length c2, .slice p3 s.leases.length c3] 32)) 33 5 #[.int .u8 123, .int .u8 34, .int .u8 114, .int .u8 101, .int .u8 118, .int .u8 34, .int .u8 58] 7 7 (w.heap.size + 1) (by simp) Tryd.underlying33 Tryd.underlying5
  have hlit : ∀ j v, (bytesV hdrJ)[j]? = some v → ((w.alloc (.cells #[.int .i64 s.rev, .slice p1 s.jobs.length c1, .slice p2 s.nodes.length c2, .slice p3 s.leases.length c3] 32)).alloc (.cells #[.int .u8 123, .int .u8 34, .int .u8 114, .int .u8 101, .int .u8 118, .int .u8 34, .int .u8 58] 5 (7, 8))).cell? ((⟨w.heap.size + 1, 0, none⟩ : Addr).add j) = some v := by
    intro j v hj
    have ha : (⟨w.heap.size + 1, 0, none⟩ : Addr).add j = ⟨w.heap.size + 1, j, none⟩ := by unfold Addr.add; split <;> simp_all
    rw [ha, cell_alloc_mark_at (w.alloc (.cells #[.int .i64 s.rev, .slice p1 s.jobs.length c1, .slice p2 s.nodes.length c2, .slice p3 s.leases.length c3] 32)) #[.int .u8 123, .int .u8 34, .int .u8 114, .int .u8 101, .int .u8 118, .int .u8 34, .int .u8 58] 5 (7, 8) (w.heap.size + 1) j (by simp)]
    simpa [bytesV, hdrJ] using hj
  have hg0 : w.heap.size + 1 < ((w.alloc (.cells #[.int .i64 s.rev, .slice p1 s.jobs.length c1, .slice p2 s.nodes.length c2, .slice p3 s.leases.length c3] 32)).alloc (.cells #[.int .u8 123, .int .u8 34, .int .u8 114, .int .u8 101, .int .u8 118, .int .u8 34, .int .u8 58] 5 (7, 8))).heap.size := by simp
  have x0 : ((w.alloc (.cells #[.int .i64 s.rev, .slice p1 s.jobs.length c1, .slice p2 s.nodes.length c2, .slice p3 s.leases.length c3] 32)).alloc (.cells #[.int .u8 123, .int .u8 34, .int .u8 114, .int .u8 101, .int .u8 118, .int .u8 34, .int .u8 58] 5 (7, 8))).cell? ⟨w.heap.size, 0, none⟩ = some (.int .i64 s.rev) := bx0.cell 0
  have hr0 := F.rev
  have hh : hdrJ.length = 7 := rfl
  go_enter Tryd.func10, Tryd.ntmps10
  go_wp2_with fail
  clear hcv
  generalize (w.alloc (.cells #[.int .i64 s.rev, .slice p1 s.jobs.length c1, .slice p2 s.nodes.length c2, .slice p3 s.leases.length c3] 32)).alloc (.cells #[.int .u8 123, .int .u8 34, .int .u8 114, .int .u8 101, .int .u8 118, .int .u8 34, .int .u8 58] 5 (7, 8)) = W at *
  refine (appLitInt_any w.heap.size (w.heap.size + 1) hdrJ s.rev hr0.1 (by omega) W hlit hg0 (by decide) (hP.below hB0)).mono ?_
  rintro e w1 ⟨v1, rfl, hb1, hB1⟩
  have hG1 : Gr 5 w.heap.size W w1 := Gr.of_new hB0.size hB1
  have hb1 := hb1.base (c := w.heap.size) hB0.size
  have bx1 := hG1.blk bx0 (by decide)
  have hT1 := hB0.trans hG1.1
  have hitl := Lib.itoa_length_le s.rev (by omega) (by omega)
  clear hlit hg0 x0 hG1 hB1 bx0
  have x1 : w1.cell? ⟨w.heap.size, 1, none⟩ = some (.slice p1 s.jobs.length c1) := bx1.cell 1
  go_wp2_with fail
  refine (arrayJ_any w.heap.size v1 _ nJobs s.jobs p1 c1 w1 hb1 hT1.size (hm.j.below hT1) (fine_smJ F) F.nj (by decide) (by simp only [List.length_append, hh]; omega) (hP.below hT1)).mono ?_
  rintro e w2 ⟨v2, rfl, hb2, hG2⟩
  have bx2 := hG2.blk bx1 (by decide)
  have hT2 := hT1.trans hG2.1
  have x2 : w2.cell? ⟨w.heap.size, 2, none⟩ = some (.slice p2 s.nodes.length c2) := bx2.cell 2
  have hl2 := arrB_len nJobs _ (by decide) (by simpa using F.nj) (objs_len s.jobs (fine_smJ F))
  clear x1 bx1 hG2 hb1
  go_wp2_with fail
  refine (arrayN_any w.heap.size v2 _ nNodes s.nodes p2 c2 w2 hb2 hT2.size (hm.n.below hT2) (fine_smN F) (by have := F.nn; omega) (by decide) (by simp only [List.length_append, hh]; omega) (hP.below hT2)).mono ?_
  rintro e w3 ⟨v3, rfl, hb3, hG3⟩
  have bx3 := hG3.blk bx2 (by decide)
  have hT3 := hT2.trans hG3.1
  have x3 : w3.cell? ⟨w.heap.size, 3, none⟩ = some (.slice p3 s.leases.length c3) := bx3.cell 3
  have hl3 := arrB_len nNodes _ (by decide) (by have := F.nn; simp; omega) (objsN_len s.nodes (fine_smN F))
  clear x2 bx2 hG3 hb2
  go_wp2_with fail
  refine (arrayL_any w.heap.size v3 _ nLeases s.leases p3 c3 w3 hb3 hT3.size (hm.l.below hT3) (fine_smL F) F.nl (by decide) (by simp only [List.length_append, hh]; omega) (hP.below hT3)).mono ?_
  rintro e w4 ⟨v4, rfl, hb4, hG4⟩
  have hT4 := hT3.trans hG4.1
  have hl4 := arrB_len nLeases _ (by decide) (by simpa using F.nl) (objsL_len s.leases (fine_smL F))
  clear x3 bx3 hG4 hb3
  go_wp2_with (at_builtin; refine wpList_buf_lit rfl _ _ 33 rfl 5 Tryd.underlying33 u8J w.heap.size _ _ rfl hb4 _ _ [125] rfl 1 1 rfl rfl (by simp only [List.length_append, List.length_cons, List.length_nil, hh]; omega) hT4.size ?_)
  intro v5 w5 hb5 hG5
  have hcv := buf_string (P := Tryd.prog) (U := 5) (src := 33) (dst := 9) Tryd.underlying33 Tryd.underlying5 Tryd.underlying9 hb5
  go_wp2_with fail
  go_ret
  exact ⟨by simp [bstr, printL, jobsB, nodesB, leasesB], hT4.trans hG5.1⟩
end Go.Proofs.YtoepchgoacdodaaDoor
