/-
  Several texts in one: JsonI, JsonC, JsonD, JsonX.
-/
import Derived.Test.YtdicoepjkngikaaDoorPkJsA
import Derived.ArgAppend
import Derived.Lib.AppendZeros
import Derived.BigCall
import Derived.BigGuard
import Derived.Test.YtdicoepjkngikaaDoorPkJsB
import Derived.Test.YtdicoepjkngikaaDoorPkStateB
import Derived.Lib.SmallJoins
import Derived.Test.YtdicoepjkngikaaDoorPkJsC
/-
 strconv.AppendInt behind a literal of bytes (whose row bears a mark): it always grows.
-/
set_option linter.unusedVariables false
set_option linter.unusedSimpArgs false
namespace Go.Proofs.YtdicoepjkngikaaDoor
open Go.RowKit Go.Lib Go.Sort
theorem grows_string {P : Program} {w : World} (t u ty e : TypeId) (i : TypeInfo) (ht : P.underlying t = some (.slice e)) (hu : P.underlying u = some .string) (hi : P.info? e = some i) (hz : i.zero = some (.int .u8 0)) (hsize : i.size = 1) (hby : i.bytes = 1)
    (b : Addr) (n cap : Nat) (olds : List Value) (hlo : olds.length = n) (holds : ∀ j v, olds[j]? = some v → w.cell? (b.add j) = some v) (s : ByteArray) (hg : cap < n + s.size) (h63 : n + s.size ≤ 1000000) :
    ∃ v' w', (Builtin.append_ #[t, u] ty #[.slice (some b) n cap, .string s]).run P w = .ok v' w' ∧ w'.ownsRow w.heap.size e 1 v' (n + s.size) (olds ++ strCells s) ∧ w.grownBy w' none := by
  have hlen : (olds ++ strCells s).length = (n + s.size) * 1 := by rw [List.length_append, hlo, strCells_length, Nat.mul_one]
  have hge := grownCap_ge w (n + s.size) cap e
  have hcm : grownCap w (n + s.size) cap e ≤ maxLen := grownCap_le_maxLen w (n + s.size) cap e (by unfold maxLen; omega)
  have hr := run_append_grow_string (P := P) w t u ty e i (.int .u8 0) ht hu hi hz b n cap olds (by rw [hsize, Nat.mul_one]; exact hlo) holds s hg (by omega) (growslice_fits hg (by rw [hby]; omega))
  refine ⟨_, _, hr, ⟨hlen, .inr ⟨w.heap.size, _, _, rfl, Nat.le_refl _, heap_alloc_new w.drew _, hge, hcm, ?_, ?_⟩⟩, ⟨rfl, rfl, rfl, by simp, fun k hk _ => Below.heap_alloc w.drew _ k hk⟩⟩
  · simp only [Array.size_append, List.size_toArray, size_zeroCells, hlo, strCells_length]
    simp [Value.cells]
    omega
  · simp only [Array.toList_append, List.append_assoc]
    rw [← List.append_assoc, ← hlen]
    exact List.take_left
theorem decDigits20 (u : Nat) (hu : u < 18446744073709551616) : (Lib.decDigits u).length ≤ 21 := by
  rw [Lib.decDigits_length]
  by_cases h : u = 0
  · subst h; rw [Lib.nDigits_small (by omega)]; omega
  · have := Lib.numDigits_eq u (by omega) hu; split at this <;> omega
set_option maxHeartbeats 8000000 in
set_option maxRecDepth 100000 in
theorem appLit_any (base g : Nat) (xs : List UInt8) (u : Nat) (hu64 : u < 18446744073709551616) (w : World) (hc : ∀ j v, (bytesV xs)[j]? = some v → w.cell? ((⟨g, 0, none⟩ : Addr).add j) = some v) (hgw : g < w.heap.size) (hxl : xs.length ≤ 1000) (hP : LibP base w) :
    Calls Tryd.prog 51 #[.slice (some ⟨g, 0, none⟩) xs.length xs.length, .int .u64 u, .int .i64 10] w fun e w' => ∃ v', e = .returned v' ∧ Buf 5 w' w.heap.size v' (xs ++ Lib.decDigits u) ∧ Below w.heap.size w w' := by
  have hd20 := decDigits20 u hu64
  have hd1 := Lib.nDigits_pos u
  rw [← Lib.decDigits_length] at hd1
  obtain ⟨i0, hi, hz0, hz1, hz2⟩ := info_parts u8J2
  have hsz : (⟨(Lib.decDigits u).toArray⟩ : ByteArray).size = (Lib.decDigits u).length := by simp [ByteArray.size]
  by_cases h : u < 100
  · obtain ⟨v', w', hr, ho, hgr⟩ := grows_string (P := Tryd.prog) (w := w) 62 9 62 5 i0 Tryd.underlying62 Tryd.underlying9 hi hz0 hz1 hz2 ⟨g, 0, none⟩ xs.length xs.length (bytesV xs) (by simp [bytesV]) hc ⟨(Lib.decDigits u).toArray⟩ (by rw [hsz]; omega) (by rw [hsz]; omega)
    have hb : Below w.heap.size w w' := (Below.refl w.heap.size w).grown hgr (Nat.le_refl _) (fun k hk => by cases hk)
    have iu : (u : Int) < 100 := by omega
    have HR := Lib.hid hr
    clear hr
    go_enter Tryd.func51, Tryd.ntmps51
    go_wp2_with (first
      | (go_at_call 60; refine (Any.internal_strconv_small { Tryd.laysAppInt with } u h _).mono ?_; rintro e w1 ⟨rfl, rfl⟩)
      | (at_builtin; refine Lib.wpList_append_run _ rfl _ _ 62 9 rfl _ _ rfl rfl v' w' HR.out ?_))
    go_ret
    refine ⟨v', rfl, ?_, hb⟩
    rw [hsz] at ho
    unfold Buf
    rw [bytesV_append, List.length_append]
    exact ho
  · have hnd := Lib.decDigits_length u
    have hal : Tryd.prog.arrayLen 117 = 24 := by kernel_rfl
    have hsl : ∀ W, (Instr.sliceAt 117 (.pointer (some ⟨w.heap.size, 0, none⟩)) none (some (.int .i64 (Lib.nDigits u : Int))) none).run Tryd.prog W = .ok (.slice (some ⟨w.heap.size, 0, none⟩) (Lib.nDigits u) 24) W := fun W => by
      rw [run_sliceAt_array_h W 117 ⟨w.heap.size, 0, none⟩ (by kernel_rfl) .i64 (Lib.nDigits u : Int) (by omega) (by rw [hal]; omega)]
      go_simp
    have hH0 := Lib.holds_zero0 w 117 (Lib.nDigits u) (by omega)
    have hfmt := Any.internal_strconv_formatBase10 { Tryd.laysAppInt with } w.heap.size 0 24 u (Array.replicate (Lib.nDigits u) 0) (w.alloc (.cells Lib.zeros24 117)) hH0 (by rw [Array.size_replicate]; exact Lib.lt_pow_nDigits u) hu64 (by rw [Array.size_replicate]; omega)
    rw [Array.size_replicate] at hfmt
    have HH0 := Lib.hid hH0
    have HF := Lib.hid hfmt
    have iu : ¬ (u : Int) < 100 := by omega
    have HT := Lib.hid (Lib.tabIs_alloc (hP.pow.here) (.cells Lib.zeros24 117))
    clear hH0 hal hfmt
    go_enter Tryd.func51, Tryd.ntmps51
    go_wp2_with (go_at_call 61; refine (Any.internal_strconv_numDigits { Tryd.laysAppInt with } u (by omega) hu64 _ HT.out).mono ?_; rintro e w' ⟨rfl, rfl⟩)
    refine HF.out.mono ?_
    rintro e w' ⟨rfl, k, v', dk, rfl, hF⟩
    obtain ⟨os, eo⟩ := Lib.fin_at w (.cells Lib.zeros24 117) dk k 0
    have hcells : ∀ j u', (bytesV (Lib.decDigits u))[j]? = some u' → ((putRow (fun (b : UInt8) => Value.int .u8 (b.toNat : Int)) (w.alloc (.cells Lib.zeros24 117)) w.heap.size 0 dk).drewN k).cell? ((⟨w.heap.size, 0, none⟩ : Addr).add j) = some u' := by
      intro j u' hj
      have hjl : j < (Lib.decDigits u).length := by
        have h5 := (List.getElem?_eq_some_iff.1 hj).1
        rwa [bytesV_length] at h5
      have e5 : (bytesV (Lib.decDigits u))[j]? = some (Value.int .u8 ((Lib.decDigits u)[j].toNat : Int)) := by simp [bytesV, hjl]
      rw [e5] at hj
      injection hj with hj
      subst hj
      rw [Lib.row_is_numeral hF j hjl, Lib.add_plain, World.cell?_drewN]
      exact cell?_putRow (fun (b : UInt8) => Value.int .u8 (b.toNat : Int)) _ w.heap.size 0 _ dk HH0.out (by rw [hF.size, Array.size_replicate]) j (by rw [hF.size, ← hnd]; exact hjl)
    have hbW : Below w.heap.size w ((putRow (fun (b : UInt8) => Value.int .u8 (b.toNat : Int)) (w.alloc (.cells Lib.zeros24 117)) w.heap.size 0 dk).drewN k) := by rw [eo]; exact Lib.below_grow w.heap.size w (Nat.le_refl _) k os
    generalize (putRow (fun (b : UInt8) => Value.int .u8 (b.toNat : Int)) (w.alloc (.cells Lib.zeros24 117)) w.heap.size 0 dk).drewN k = W2 at hcells hbW ⊢
    have hc2 : ∀ j v, (bytesV xs)[j]? = some v → W2.cell? ((⟨g, 0, none⟩ : Addr).add j) = some v := fun j v hj => (hbW.cell (p := (⟨g, 0, none⟩ : Addr).add j) (by rw [block_of_add]; exact hgw)).trans (hc j v hj)
    have hone : ∀ u' ∈ bytesV (Lib.decDigits u), u'.oneCell' = true := by intro u' hu'; simp only [bytesV, List.mem_map] at hu'; obtain ⟨b, _, rfl⟩ := hu'; rfl
    clear eo HH0 HF HT hF
    go_wp2_with (at_builtin; refine wpList_append_grows _ rfl _ _ 62 rfl 5 i0 (.int .u8 0) 1 1 Tryd.underlying62 hi hz0 hz1 hz2 rfl (by decide) (some ⟨g, 0, none⟩) xs.length xs.length (bytesV xs) rfl (by intro h; cases h) (by simp [bytesV]) (fun b hb j u' h => by injection hb with hb; subst hb; exact hc2 j u' h) ⟨w.heap.size, 0, none⟩ (Lib.nDigits u) 24 (bytesV (Lib.decDigits u)) rfl (by rw [bytesV_length, hnd, Nat.mul_one]) hcells hone (by omega) (by unfold maxLen; omega) (by omega) ?_)
    intro v2 w3 ho hgr
    go_wp2_with fail
    go_ret
    have hb3 : Below w.heap.size W2 w3 := ((Below.refl W2.heap.size W2).grown hgr (Nat.le_refl _) (fun k hk => by cases hk)).mono hbW.size
    refine ⟨v2, rfl, ?_, hbW.trans hb3⟩
    unfold Buf
    rw [bytesV_append, List.length_append, hnd]
    exact ⟨ho.1, ho.2.elim Or.inl (fun ⟨g, cap, cur, hv, hg, r⟩ => Or.inr ⟨g, cap, cur, hv, Nat.le_trans hbW.size hg, r⟩)⟩
theorem appLitIn_any (base g : Nat) (xs : List UInt8) (u : Nat) (hn2 : (u : Int) ≤ 9223372036854775807) (w : World) (hc : ∀ j v, (bytesV xs)[j]? = some v → w.cell? ((⟨g, 0, none⟩ : Addr).add j) = some v) (hgw : g < w.heap.size) (hxl : xs.length ≤ 1000) (hP : LibP base w) :
    Calls Tryd.prog 42 #[.slice (some ⟨g, 0, none⟩) xs.length xs.length, .int .i64 (u : Int), .int .i64 10] w fun e w' => ∃ v', e = .returned v' ∧ Buf 5 w' w.heap.size v' (xs ++ Lib.decDigits u) ∧ Below w.heap.size w w' := by
  have HA := Lib.hid (appLit_any base g xs u (by omega) w hc hgw hxl hP)
  have hneg : ¬ (u : Int) < 0 := by omega
  have hwr : IntKind.u64.wrap (u : Int) = (u : Int) := by rw [IntKind.wrap_u64]; omega
  clear hc hP
  go_enter Tryd.func42, Tryd.ntmps42
  go_wp2_with fail
  refine HA.out.mono ?_
  rintro e w1 ⟨v1, rfl, hb, hB⟩
  go_wp2_with fail
  go_ret
  exact ⟨v1, rfl, hb, hB⟩
/-- The same by strconv's own name, at a number that is not negative. -/
theorem appLitInt_any (base g : Nat) (xs : List UInt8) (n : Int) (hn : 0 ≤ n) (hn2 : n ≤ 9223372036854775807) (w : World) (hc : ∀ j v, (bytesV xs)[j]? = some v → w.cell? ((⟨g, 0, none⟩ : Addr).add j) = some v) (hgw : g < w.heap.size) (hxl : xs.length ≤ 1000) (hP : LibP base w) :
    Calls Tryd.prog 24 #[.slice (some ⟨g, 0, none⟩) xs.length xs.length, .int .i64 n, .int .i64 10] w fun e w' => ∃ v', e = .returned v' ∧ Buf 5 w' w.heap.size v' (xs ++ Lib.itoa n) ∧ Below w.heap.size w w' := by
  obtain ⟨u, rfl⟩ : ∃ u : Nat, n = u := ⟨n.toNat, by omega⟩
  have hi : Lib.itoa (u : Int) = Lib.decDigits u := by unfold Lib.itoa; rw [if_neg (by omega)]; simp
  rw [hi]
  have HA := Lib.hid (appLitIn_any base g xs u hn2 w hc hgw hxl hP)
  clear hc hP
  go_enter Tryd.func24, Tryd.ntmps24
  go_wp2_with fail
  refine HA.out.mono ?_
  rintro e w1 ⟨v1, rfl, hb, hB⟩
  go_wp2_with fail
  go_ret
  exact ⟨v1, rfl, hb, hB⟩
end Go.Proofs.YtdicoepjkngikaaDoor

/-
 Contracts of package json: Print.
-/
set_option linter.unusedVariables false
set_option linter.unusedSimpArgs false
namespace Go.Proofs.YtdicoepjkngikaaDoor
open Go.RowKit Go.Joins
theorem textOk16 {s : ByteArray} (h : textOk s = true) : s.size ≤ 16 := by
  unfold textOk at h; simp only [Bool.and_eq_true, decide_eq_true_eq] at h; exact h.1
theorem nameOk16 {s : ByteArray} (h : nameOk s = true) : s.size ≤ 16 := by
  unfold nameOk at h; simp only [Bool.and_eq_true, decide_eq_true_eq] at h; exact textOk16 h.2
theorem fine_smJ {s : St} (F : Fine s) : ∀ x ∈ s.jobs, smJ x := by
  intro x hx
  have h := F.j x hx
  have hi := jobE_int h
  unfold jobE at h
  split at h
  · rename_i h1
    simp only [Bool.and_eq_true] at h1
    exact ⟨nameOk16 h1.1, textOk16 h1.2, hi.1, hi.2.1, hi.2.2⟩
  · cases h
theorem fine_smN {s : St} (F : Fine s) : ∀ x ∈ s.nodes, smN x := by
  intro x hx
  have h := F.n x hx
  have hi := nodeE_int h
  unfold nodeE at h
  split at h
  · rename_i h1
    simp only [Bool.and_eq_true] at h1
    exact ⟨nameOk16 h1.1, textOk16 h1.2, hi⟩
  · cases h
theorem fine_smL {s : St} (F : Fine s) : ∀ x ∈ s.leases, smL x := by
  intro x hx
  have ht := fine_till F x hx
  have h := F.l x hx
  unfold leaseE at h
  split at h
  · rename_i h1
    simp only [Bool.and_eq_true, Option.isSome_iff_exists] at h1
    obtain ⟨⟨j, hj⟩, ⟨n, hn⟩⟩ := h1
    unfold jobAt at hj
    unfold nodeAt at hn
    have j1 := List.find?_some hj
    have j2 := List.mem_of_find?_eq_some hj
    have n1 := List.find?_some hn
    have n2 := List.mem_of_find?_eq_some hn
    simp only [decide_eq_true_eq] at j1 n1
    exact ⟨by rw [← j1]; exact (fine_smJ F j j2).1, by rw [← n1]; exact (fine_smN F n n2).1, ht⟩
  · cases h
theorem Buf.base {U : TypeId} {w : World} {b c : Nat} {v : Value} {l : List UInt8} (h : Buf U w b v l) (hc : c ≤ b) : Buf U w c v l :=
  ⟨h.1, h.2.elim Or.inl (fun ⟨g, cap, cur, hv, hg, r⟩ => Or.inr ⟨g, cap, cur, hv, Nat.le_trans hc hg, r⟩)⟩
theorem arrB_len (name : ByteArray) (ls : List (List UInt8)) (hn : name.size ≤ 16) (hl : ls.length ≤ 40) (h : ∀ x ∈ ls, x.length ≤ 1107) : (arrB name ls).length ≤ 50000 := by
  have h1 := rowsJ_len2 ls h
  have h2 := quoteL_len name.data.toList
  rw [bl_len] at h2
  unfold arrB; simp only [List.length_cons, List.length_append, List.length_nil]; omega
theorem objs_len (l : List JobD) (h : ∀ x ∈ l, smJ x) : ∀ y ∈ (l.map fvJ).map objB, y.length ≤ 1107 := by
  intro y hy
  obtain ⟨z, hz, rfl⟩ := List.mem_map.1 hy
  obtain ⟨x, hx, rfl⟩ := List.mem_map.1 hz
  exact objB_len (fldsJ ⟨0, 0, none⟩ x) (show (5 : Nat) ≤ 5 by decide) (smallJ (h x hx) _)
theorem objsN_len (l : List NodeD) (h : ∀ x ∈ l, smN x) : ∀ y ∈ (l.map fvN).map objB, y.length ≤ 1107 := by
  intro y hy
  obtain ⟨z, hz, rfl⟩ := List.mem_map.1 hy
  obtain ⟨x, hx, rfl⟩ := List.mem_map.1 hz
  exact objB_len (fldsN ⟨0, 0, none⟩ x) (show (3 : Nat) ≤ 5 by decide) (smallN (h x hx) _)
theorem objsL_len (l : List LeaseD) (h : ∀ x ∈ l, smL x) : ∀ y ∈ (l.map fvL).map objB, y.length ≤ 1107 := by
  intro y hy
  obtain ⟨z, hz, rfl⟩ := List.mem_map.1 hy
  obtain ⟨x, hx, rfl⟩ := List.mem_map.1 hz
  exact objB_len (fldsL ⟨0, 0, none⟩ x) (show (3 : Nat) ≤ 5 by decide) (smallL (h x hx) _)
set_option maxHeartbeats 8000000 in
set_option maxRecDepth 100000 in
theorem printed_any (s : St) (p1 p2 p3 : Option Addr) (c1 c2 c3 : Nat) (w : World) (hm : StM w w.heap.size p1 p2 p3 s) (F : Fine s) (hP : LibP w.heap.size w) :
    Calls Tryd.prog 11 #[.agg #[.int .i64 s.rev, .slice p1 s.jobs.length c1, .slice p2 s.nodes.length c2, .slice p3 s.leases.length c3]] w fun e w' => e = .returned (.string (bstr (printL s))) ∧ Below w.heap.size w w' := by
  have bx0 := (Blk.new w 26 #[.int .i64 s.rev, .slice p1 s.jobs.length c1, .slice p2 s.nodes.length c2, .slice p3 s.leases.length c3]).alloc (.cells #[.int .u8 123, .int .u8 34, .int .u8 114, .int .u8 101, .int .u8 118, .int .u8 34, .int .u8 58] 5 (7, 8))
  have hB0 : Below w.heap.size w ((w.alloc (.cells #[.int .i64 s.rev, .slice p1 s.jobs.length c1, .slice p2 s.nodes.length c2, .slice p3 s.leases.length c3] 26)).alloc (.cells #[.int .u8 123, .int .u8 34, .int .u8 114, .int .u8 101, .int .u8 118, .int .u8 34, .int .u8 58] 5 (7, 8))) := ((Below.refl _ _).alloc (Nat.le_refl _) _).alloc (by simp) _
  have hcv : (convert 62 62 (.slice (some ⟨w.heap.size + 1, 0, none⟩) 7 7)).run Tryd.prog ((w.alloc (.cells #[.int .i64 s.rev, .slice p1 s.jobs.length c1, .slice p2 s.nodes.length c2, .slice p3 s.leases.length c3] 26)).alloc (.cells #[.int .u8 123, .int .u8 34, .int .u8 114, .int .u8 101, .int .u8 118, .int .u8 34, .int .u8 58] 5)) = .ok (.slice (some ⟨w.heap.size + 1, 0, none⟩) 7 7) ((w.alloc (.cells #[.int .i64 s.rev, .slice p1 s.jobs.length c1, .slice p2 s.nodes.length c2, .slice p3 s.leases.length c3] 26)).alloc (.cells #[.int .u8 123, .int .u8 34, .int .u8 114, .int .u8 101, .int .u8 118, .int .u8 34, .int .u8 58] 5 (7, 8))) :=
    run_convert_bytes_const_at (w.alloc (.cells #[.int .i64 s.rev, .slice p1 s.jobs.length c1, .slice p2 s.nodes.length c2, .slice p3 s.leases.length c3] 26)) 62 5 #[.int .u8 123, .int .u8 34, .int .u8 114, .int .u8 101, .int .u8 118, .int .u8 34, .int .u8 58] 7 7 (w.heap.size + 1) (by simp) Tryd.underlying62 Tryd.underlying5
  have hlit : ∀ j v, (bytesV hdrJ)[j]? = some v → ((w.alloc (.cells #[.int .i64 s.rev, .slice p1 s.jobs.length c1, .slice p2 s.nodes.length c2, .slice p3 s.leases.length c3] 26)).alloc (.cells #[.int .u8 123, .int .u8 34, .int .u8 114, .int .u8 101, .int .u8 118, .int .u8 34, .int .u8 58] 5 (7, 8))).cell? ((⟨w.heap.size + 1, 0, none⟩ : Addr).add j) = some v := by
    intro j v hj
    have ha : (⟨w.heap.size + 1, 0, none⟩ : Addr).add j = ⟨w.heap.size + 1, j, none⟩ := by unfold Addr.add; split <;> simp_all
    rw [ha, cell_alloc_mark_at (w.alloc (.cells #[.int .i64 s.rev, .slice p1 s.jobs.length c1, .slice p2 s.nodes.length c2, .slice p3 s.leases.length c3] 26)) #[.int .u8 123, .int .u8 34, .int .u8 114, .int .u8 101, .int .u8 118, .int .u8 34, .int .u8 58] 5 (7, 8) (w.heap.size + 1) j (by simp)]
    simpa [bytesV, hdrJ] using hj
  have hg0 : w.heap.size + 1 < ((w.alloc (.cells #[.int .i64 s.rev, .slice p1 s.jobs.length c1, .slice p2 s.nodes.length c2, .slice p3 s.leases.length c3] 26)).alloc (.cells #[.int .u8 123, .int .u8 34, .int .u8 114, .int .u8 101, .int .u8 118, .int .u8 34, .int .u8 58] 5 (7, 8))).heap.size := by simp
  have x0 : ((w.alloc (.cells #[.int .i64 s.rev, .slice p1 s.jobs.length c1, .slice p2 s.nodes.length c2, .slice p3 s.leases.length c3] 26)).alloc (.cells #[.int .u8 123, .int .u8 34, .int .u8 114, .int .u8 101, .int .u8 118, .int .u8 34, .int .u8 58] 5 (7, 8))).cell? ⟨w.heap.size, 0, none⟩ = some (.int .i64 s.rev) := bx0.cell 0
  have hr0 := F.rev
  have hh : hdrJ.length = 7 := rfl
  go_enter Tryd.func11, Tryd.ntmps11
  go_wp2_with fail
  clear hcv
  generalize (w.alloc (.cells #[.int .i64 s.rev, .slice p1 s.jobs.length c1, .slice p2 s.nodes.length c2, .slice p3 s.leases.length c3] 26)).alloc (.cells #[.int .u8 123, .int .u8 34, .int .u8 114, .int .u8 101, .int .u8 118, .int .u8 34, .int .u8 58] 5 (7, 8)) = W at *
  refine (appLitInt_any w.heap.size (w.heap.size + 1) hdrJ s.rev hr0.1 (by omega) W hlit hg0 (by decide) (hP.below hB0)).mono ?_
  rintro e w1 ⟨v1, rfl, hb1, hB1⟩
  have hG1 : Gr 5 w.heap.size W w1 := Gr.of_new hB0.size hB1
  have hb1 := hb1.base (c := w.heap.size) hB0.size
  have bx1 := hG1.blk bx0 (by decide)
  have hT1 := hB0.trans hG1.1
  have hitl := Lib.itoa_length_le s.rev (by omega) (by omega)
  clear hlit hg0 x0 hG1 hB1 bx0
  have x1 : w1.cell? ⟨w.heap.size, 1, none⟩ = some (.slice p1 s.jobs.length c1) := bx1.cell 1
  go_wp2_with fail
  refine (arrayJ_any w.heap.size v1 _ nJobs s.jobs p1 c1 w1 hb1 hT1.size (hm.j.below hT1) (fine_smJ F) F.nj (by decide) (by simp only [List.length_append, hh]; omega) (hP.below hT1)).mono ?_
  rintro e w2 ⟨v2, rfl, hb2, hG2⟩
  have bx2 := hG2.blk bx1 (by decide)
  have hT2 := hT1.trans hG2.1
  have x2 : w2.cell? ⟨w.heap.size, 2, none⟩ = some (.slice p2 s.nodes.length c2) := bx2.cell 2
  have hl2 := arrB_len nJobs _ (by decide) (by simpa using F.nj) (objs_len s.jobs (fine_smJ F))
  clear x1 bx1 hG2 hb1
  go_wp2_with fail
  refine (arrayN_any w.heap.size v2 _ nNodes s.nodes p2 c2 w2 hb2 hT2.size (hm.n.below hT2) (fine_smN F) (by have := F.nn; omega) (by decide) (by simp only [List.length_append, hh]; omega) (hP.below hT2)).mono ?_
  rintro e w3 ⟨v3, rfl, hb3, hG3⟩
  have bx3 := hG3.blk bx2 (by decide)
  have hT3 := hT2.trans hG3.1
  have x3 : w3.cell? ⟨w.heap.size, 3, none⟩ = some (.slice p3 s.leases.length c3) := bx3.cell 3
  have hl3 := arrB_len nNodes _ (by decide) (by have := F.nn; simp; omega) (objsN_len s.nodes (fine_smN F))
  clear x2 bx2 hG3 hb2
  go_wp2_with fail
  refine (arrayL_any w.heap.size v3 _ nLeases s.leases p3 c3 w3 hb3 hT3.size (hm.l.below hT3) (fine_smL F) F.nl (by decide) (by simp only [List.length_append, hh]; omega) (hP.below hT3)).mono ?_
  rintro e w4 ⟨v4, rfl, hb4, hG4⟩
  have hT4 := hT3.trans hG4.1
  have hl4 := arrB_len nLeases _ (by decide) (by simpa using F.nl) (objsL_len s.leases (fine_smL F))
  clear x3 bx3 hG4 hb3
  go_wp2_with (at_builtin; refine wpList_buf_lit rfl _ _ 62 rfl 5 Tryd.underlying62 u8J w.heap.size _ _ rfl hb4 _ _ [125] rfl 1 1 rfl rfl (by simp only [List.length_append, List.length_cons, List.length_nil, hh]; omega) hT4.size ?_)
  intro v5 w5 hb5 hG5
  have hcv := buf_string (P := Tryd.prog) (U := 5) (src := 62) (dst := 9) Tryd.underlying62 Tryd.underlying5 Tryd.underlying9 hb5
  go_wp2_with fail
  go_ret
  exact ⟨by simp [bstr, printL, jobsB, nodesB, leasesB], hT4.trans hG5.1⟩
end Go.Proofs.YtdicoepjkngikaaDoor

/-
 Contracts of package json: Print; the closed fact of the laws.
-/
set_option linter.unusedVariables false
set_option linter.unusedSimpArgs false
namespace Go.Proofs.YtdicoepjkngikaaDoor
open Go.RowKit Go.Joins
theorem state_size4 : (Tryd.prog.info? 26).map (·.size) = some 4 := by kernel_rfl
def printE (s : St) : List UInt8 := if checkE s = 0 then printL s else []
set_option maxHeartbeats 8000000 in
set_option maxRecDepth 100000 in
theorem Print_any (s : St) (p1 p2 p3 : Option Addr) (c1 c2 c3 : Nat) (w : World) (hm : StM w w.heap.size p1 p2 p3 s) (hz : StSz s) (hP : LibP w.heap.size w) :
    Calls Tryd.prog 6 #[.agg #[.int .i64 s.rev, .slice p1 s.jobs.length c1, .slice p2 s.nodes.length c2, .slice p3 s.leases.length c3]] w fun e w' => e = .returned (.tuple #[.string (bstr (printE s)), .int .i64 (checkE s : Int)]) ∧ Below w.heap.size w w' := by
  have hb0 : Below w.heap.size w (w.alloc (.cells #[.int .i64 s.rev, .slice p1 s.jobs.length c1, .slice p2 s.nodes.length c2, .slice p3 s.leases.length c3] 26)) := (Below.refl _ _).alloc (Nat.le_refl _) _
  have bx0 := Blk.new w 26 #[.int .i64 s.rev, .slice p1 s.jobs.length c1, .slice p2 s.nodes.length c2, .slice p3 s.leases.length c3]
  have HC := Lib.hid (fun (W : World) (hW : Below w.heap.size w W) => stCheck_any s p1 p2 p3 c1 c2 c3 W ((hm.below hW).more hW.size) hz (hP.tabs W hW))
  have HP := Lib.hid (fun (F : Fine s) (W : World) (hW : Below w.heap.size w W) => printed_any s p1 p2 p3 c1 c2 c3 W ((hm.below hW).more hW.size) F ((hP.below hW).more hW.size))
  have hpe : printE s = if checkE s = 0 then printL s else [] := rfl
  have HPE := Lib.hid hpe
  have HF := Lib.hid (fine_iff s)
  clear hm hz hP hpe
  generalize checkE s = k at *
  go_enter Tryd.func6, Tryd.ntmps6
  go_wp2_with fail
  generalize w.alloc _ = W at *
  go_wp2_with (refine wpList_load_blk rfl _ _ rfl w.heap.size rfl _ _ bx0 _ Tryd.underlying26 rfl state_size4 ?_)
  refine (HC.out W hb0).mono ?_
  rintro e w1 ⟨rfl, hb1⟩
  have hB1 := hb0.trans (hb1.mono hb0.size)
  have bx1 := bx0.below hb1 bx0.lt
  by_cases h0 : k = 0
  · have F := Lib.hid (HF.out.1 h0)
    have hk1 : ((k : Int) != 0) = false := by rw [h0]; rfl
    have hpe := HPE.out
    rw [if_pos h0] at hpe
    have H0 := Lib.hid h0
    clear h0 HF
    go_wp2_with (refine wpList_load_blk rfl _ _ rfl w.heap.size rfl _ _ bx1 _ Tryd.underlying26 rfl state_size4 ?_)
    refine (HP.out F.out w1 hB1).mono ?_
    rintro e w2 ⟨rfl, hb2⟩
    go_wp2_with fail
    go_ret2
    exact ⟨by rw [hpe, H0.out]; rfl, hB1.trans (hb2.mono hB1.size)⟩
  · have hk1 : ((k : Int) != 0) = true := by rw [bne_iff_ne]; omega
    have hpe := HPE.out
    rw [if_neg h0] at hpe
    clear HF
    go_wp2_with fail
    go_ret2
    exact ⟨by rw [hpe]; rfl, hB1⟩
def seven : St := ⟨7, [], [], []⟩
theorem seven_check : checkE seven = 0 := by decide +kernel
theorem seven_print : printL seven = [123, 34, 114, 101, 118, 34, 58, 55, 44, 34, 106, 111, 98, 115, 34, 58, 91, 93, 44, 34, 110, 111, 100, 101, 115, 34, 58, 91, 93, 44, 34, 108, 101, 97, 115, 101, 115, 34, 58, 91, 93, 125] := by
  have h : Lib.itoa 7 = [55] := by unfold Lib.itoa; rw [if_neg (by decide)]; exact Lib.decDigits_one (i := 7) (by decide)
  unfold printL seven
  simp only [h]
  decide
theorem seven_M (w : World) (B : Nat) : StM w B none none none seven := ⟨Elts.nil_, Elts.nil_, Elts.nil_⟩
theorem seven_Z : StSz seven := ⟨by simp [seven], by simp [seven], by simp [seven], by decide, by decide, by decide⟩
set_option maxHeartbeats 8000000 in
set_option maxRecDepth 100000 in
theorem printedF_any (w : World) (hP : LibP w.heap.size w) : Calls Tryd.prog 5 #[] w fun e w' => e = .returned (.bool true) ∧ Below w.heap.size w w' := by
  have HP := Lib.hid (Print_any seven none none none 0 0 0 w (seven_M _ _) seven_Z hP)
  have h1 : printE seven = [123, 34, 114, 101, 118, 34, 58, 55, 44, 34, 106, 111, 98, 115, 34, 58, 91, 93, 44, 34, 110, 111, 100, 101, 115, 34, 58, 91, 93, 44, 34, 108, 101, 97, 115, 101, 115, 34, 58, 91, 93, 125] := by unfold printE; rw [if_pos seven_check]; exact seven_print
  rw [h1, seven_check] at HP
  go_enter Tryd.func5, Tryd.ntmps5
  go_wp2_with fail
  refine HP.out.mono ?_
  rintro e w1 ⟨rfl, hb1⟩
  have heq : ((bstr [123, 34, 114, 101, 118, 34, 58, 55, 44, 34, 106, 111, 98, 115, 34, 58, 91, 93, 44, 34, 110, 111, 100, 101, 115, 34, 58, 91, 93, 44, 34, 108, 101, 97, 115, 101, 115, 34, 58, 91, 93, 125]).toList == ([123, 34, 114, 101, 118, 34, 58, 55, 44, 34, 106, 111, 98, 115, 34, 58, 91, 93, 44, 34, 110, 111, 100, 101, 115, 34, 58, 91, 93, 44, 34, 108, 101, 97, 115, 101, 115, 34, 58, 91, 93, 125] : List UInt8)) = true := by decide +kernel
  go_wp2_with fail
  go_ret
  exact ⟨rfl, hb1⟩
end Go.Proofs.YtdicoepjkngikaaDoor

/-
 Plain: what is read fits the machine. No program.
-/
set_option linter.unusedVariables false
set_option linter.unusedSimpArgs false
namespace Go.Proofs.YtdicoepjkngikaaDoor
theorem numR_bounds (s : RdS) : -9223372036854775808 ≤ (numR s).1 ∧ (numR s).1 ≤ 9223372036854775807 := by
  show -9223372036854775808 ≤ numV s.1 ∧ numV s.1 ≤ 9223372036854775807
  unfold numV
  rcases h : Lib.atoiAll (s.1.take (numL s.1)) with v | _ | _
  · exact Lib.atoiAll_bounds h
  · simp
  · exact Lib.atoiSat_bounds _
theorem txN_acc (f : Nat) (l acc : List UInt8) : (txN f l acc).1.length ≤ acc.length + l.length := by
  induction f generalizing l acc with
  | zero => simp [txN]
  | succ f ih =>
    rw [txN.eq_def]
    simp only
    split
    · simp
    · split
      · simp
      · split
        · rename_i hb
          have hle : bsu.length ≤ l.length := hb.length_le
          have hb4 : bsu.length = 4 := rfl
          split
          · rename_i a b r hd
            have hlen := congrArg List.length hd
            simp at hlen
            split
            · rename_i n _
              have := ih r (acc ++ [UInt8.ofNat n])
              simp at this; omega
            · simp; omega
          · simp
        · split
          · split
            · rename_i c r hd
              have hlen := congrArg List.length hd
              simp at hlen
              have := ih r (acc ++ [c])
              simp at this; omega
            · simp
          · split
            · rename_i c r _ _ _ _
              have := ih r (acc ++ [c])
              simp at this ⊢; omega
            · simp
theorem txR_acc (s : RdS) : (txR s).1.length ≤ s.1.length := by
  have h0 := mustL_le [34] s
  unfold txR
  split
  · simp
  · have := txN_acc ((mustL [34] s).1.length + 1) (mustL [34] s).1 []; simp at this; omega
def fvB (N : Nat) : FV → Prop
  | .num n => -9223372036854775808 ≤ n ∧ n ≤ 9223372036854775807
  | .txt s => s.size ≤ N
theorem fieldR_B (N : Nat) (n : ByteArray) (k : Bool) (s : RdS) (h : s.1.length ≤ N) : fvB N (fieldR n k s).1 := by
  have h0 := mustL_le (quoteL n.data.toList ++ [58]) s
  cases k
  · rw [fieldR_txt]
    have := txR_acc (mustL (quoteL n.data.toList ++ [58]) s)
    show (bstr _).size ≤ N
    rw [bstr_size]; omega
  · rw [fieldR_num]; exact numR_bounds _
theorem fieldsR_B (N : Nat) (c : Bool) (p : Spec) (s : RdS) (h : s.1.length ≤ N) : ∀ x ∈ (fieldsR c p s).1, fvB N x := by
  induction p generalizing c s with
  | nil => simp [fieldsR]
  | cons a p ih =>
    obtain ⟨n, k⟩ := a
    intro x hx
    simp only [fieldsR, List.mem_cons] at hx
    have h1 : (if c = true then mustL [44] s else s).1.length ≤ N := by
      split
      · exact Nat.le_trans (mustL_le _ _) h
      · exact h
    rcases hx with rfl | hx
    · exact fieldR_B N n k _ h1
    · exact ih true _ (Nat.le_trans (fieldR_le _ _ _) h1) x hx
theorem objR_B (N : Nat) (p : Spec) (s : RdS) (h : s.1.length ≤ N) : ∀ x ∈ (objR p s).1, fvB N x :=
  fieldsR_B N false p (mustL [123] s) (Nat.le_trans (mustL_le _ _) h)
theorem elN_B (N : Nat) (p : Spec) (f : Nat) (l : List UInt8) (acc : List (List FV)) (h : l.length ≤ N) (ha : ∀ r ∈ acc, ∀ x ∈ r, fvB N x) :
    (∀ r ∈ (elN p f l acc).1, ∀ x ∈ r, fvB N x) ∧ (elN p f l acc).1.length ≤ acc.length + f ∧ (elN p f l acc).2.1.length ≤ l.length := by
  induction f generalizing l acc with
  | zero => exact ⟨ha, by simp [elN], by simp [elN]⟩
  | succ f ih =>
    rw [elN.eq_def]
    simp only
    split
    · exact ⟨ha, by simp, by simp⟩
    · have hq := nextQ_le acc l
      have hn : ∀ r ∈ acc ++ [(objR p (nextQ acc l)).1], ∀ x ∈ r, fvB N x := by
        intro r hr
        rcases List.mem_append.1 hr with hr | hr
        · exact ha r hr
        · simp only [List.mem_singleton] at hr; subst hr; exact objR_B N p _ (by omega)
      have ho := objR_le p (nextQ acc l)
      have hi := ih (objR p (nextQ acc l)).2.1 (acc ++ [(objR p (nextQ acc l)).1]) (by omega) hn
      change (∀ r ∈ (if (objR p (nextQ acc l)).2.2 = true then (acc ++ [(objR p (nextQ acc l)).1], (objR p (nextQ acc l)).2.1, true) else elN p f (objR p (nextQ acc l)).2.1 (acc ++ [(objR p (nextQ acc l)).1])).1, ∀ x ∈ r, fvB N x) ∧ (if (objR p (nextQ acc l)).2.2 = true then (acc ++ [(objR p (nextQ acc l)).1], (objR p (nextQ acc l)).2.1, true) else elN p f (objR p (nextQ acc l)).2.1 (acc ++ [(objR p (nextQ acc l)).1])).1.length ≤ _ ∧ (if (objR p (nextQ acc l)).2.2 = true then (acc ++ [(objR p (nextQ acc l)).1], (objR p (nextQ acc l)).2.1, true) else elN p f (objR p (nextQ acc l)).2.1 (acc ++ [(objR p (nextQ acc l)).1])).2.1.length ≤ _
      split
      · exact ⟨hn, by simp, by show (objR p (nextQ acc l)).2.1.length ≤ _; omega⟩
      · refine ⟨hi.1, ?_, by omega⟩
        have := hi.2.1; simp at this; omega
theorem elR_B (N : Nat) (p : Spec) (name : ByteArray) (s : RdS) (h : s.1.length ≤ N) :
    (∀ r ∈ (elR p name s).1, ∀ x ∈ r, fvB N x) ∧ (elR p name s).1.length ≤ N + 1 ∧ (elR p name s).2.1.length ≤ N := by
  have h0 := mustL_le (44 :: (quoteL name.data.toList ++ [58, 91])) s
  unfold elR
  simp only
  split
  · exact ⟨by simp, by simp, Nat.le_trans h0 h⟩
  · have := elN_B N p ((mustL (44 :: (quoteL name.data.toList ++ [58, 91])) s).1.length + 1) (mustL (44 :: (quoteL name.data.toList ++ [58, 91])) s).1 [] (by omega) (by simp)
    refine ⟨this.1, ?_, by omega⟩
    have h2 := this.2.1; simp at h2; omega
theorem toJ_B {N : Nat} (r : List FV) (h : ∀ x ∈ r, fvB N x) : (toJ r).name.size ≤ N ∧ (toJ r).tag.size ≤ N := by
  unfold toJ
  split
  · rename_i a p n t g
    exact ⟨h (.txt a) (by simp), h (.txt g) (by simp)⟩
  · exact ⟨Nat.zero_le _, Nat.zero_le _⟩
theorem toN_B {N : Nat} (r : List FV) (h : ∀ x ∈ r, fvB N x) : (toN r).name.size ≤ N ∧ (toN r).zone.size ≤ N ∧ (-9223372036854775808 ≤ (toN r).room ∧ (toN r).room ≤ 9223372036854775807) := by
  unfold toN
  split
  · rename_i a p g
    exact ⟨h (.txt a) (by simp), h (.txt g) (by simp), h (.num p) (by simp)⟩
  · exact ⟨Nat.zero_le _, Nat.zero_le _, by decide⟩
theorem readL_sz {t : List UInt8} (h : t.length ≤ 60000) : StSz (readL t).1 := by
  have h1 := mustL_le hdrJ (t, false)
  have h2 : (numR (mustL hdrJ (t, false))).2.1.length ≤ (mustL hdrJ (t, false)).1.length := numR_le _
  have h3 : (numR (mustL hdrJ (t, false))).2.1.length ≤ 60000 := by simp at h1; omega
  have a := elR_B 60000 specJ nJobs _ h3
  have b := elR_B 60000 specN nNodes _ a.2.2
  have c := elR_B 60000 specL nLeases _ b.2.2
  refine ⟨?_, ?_, ?_, ?_, ?_, ?_⟩
  · intro x hx
    obtain ⟨r, hr, rfl⟩ := List.mem_map.1 hx
    have := toJ_B r (a.1 r hr); omega
  · intro x hx
    obtain ⟨r, hr, rfl⟩ := List.mem_map.1 hx
    have := toN_B r (b.1 r hr); omega
  · intro x hx
    obtain ⟨r, hr, rfl⟩ := List.mem_map.1 hx
    have := toN_B r (b.1 r hr); omega
  · show (List.map toJ _).length ≤ _; rw [List.length_map]; exact Nat.le_trans a.2.1 (by decide)
  · show (List.map toN _).length ≤ _; rw [List.length_map]; exact Nat.le_trans b.2.1 (by decide)
  · show (List.map toL _).length ≤ _; rw [List.length_map]; exact Nat.le_trans c.2.1 (by decide)
end Go.Proofs.YtdicoepjkngikaaDoor
