/-
 strconv.AppendInt behind a literal of bytes (whose row bears a mark): it always grows.
-/
import Derived.Test.YtoepchgoacdodaaDoorJsonS
import Derived.ArgAppend
import Derived.Lib.AppendZeros
import Derived.BigCall
import Derived.BigGuard
set_option linter.unusedVariables false
set_option linter.unusedSimpArgs false
namespace Go.Proofs.YtoepchgoacdodaaDoor
open Go.RowKit Go.Lib Go.Sort
theorem grows_string {P : Program} {w : World} (t u ty e : TypeId) (i : TypeInfo) (ht : P.underlying t = some (.slice e)) (hu : P.underlying u = some .string) (hi : P.info? e = some i) (hz : i.zero = some (.int .u8 0)) (hsize : i.size = 1) (hby : i.bytes = 1)
    (b : Addr) (n cap : Nat) (olds : List Value) (hlo : olds.length = n) (holds : ∀ j v, olds[j]? = some v → w.cell? (b.add j) = some v) (s : ByteArray) (hg : cap < n + s.size) (h63 : n + s.size ≤ 1000000) :
    ∃ v' w', (Builtin.append_ #[t, u] ty #[.slice (some b) n cap, .string s]).run P w = .ok v' w' ∧ w'.ownsRow w.heap.size e 1 v' (n + s.size) (olds ++ strCells s) ∧ w.grownBy w' none := by
  have hlen : (olds ++ strCells s).length = (n + s.size) * 1 := by rw [List.length_append, hlo, strCells_length, Nat.mul_one]
  have hge := grownCap_ge w (n + s.size) cap e
  have hcm : grownCap w (n + s.size) cap e ≤ maxLen := grownCap_le_maxLen w (n + s.size) cap e (by unfold maxLen; omega)
  have hr := run_append_grow_string (P := P) w t u ty e i (.int .u8 0) ht hu hi hz b n cap olds (by rw [hsize, Nat.mul_one]; exact hlo) holds s hg (by omega) (growslice_fits hg (by rw [hby]; omega))
  refine ⟨_, _, hr, ⟨hlen, .inr ⟨w.heap.size, _, _, rfl, Nat.le_refl _, heap_alloc_new w.drew _, hge, hcm, ?_, ?_⟩⟩, ⟨rfl, rfl, rfl, by simp, fun k hk _ => Below.heap_alloc w.drew _ k hk⟩⟩
  · simp only [Array.size_append, List.size_toArray, size_zeroCells, hlo, strCells_length]
    simp [Value.cells]
    omega
  · simp only [Array.toList_append, List.append_assoc]
    rw [← List.append_assoc, ← hlen]
    exact List.take_left
theorem decDigits20 (u : Nat) (hu : u < 18446744073709551616) : (Lib.decDigits u).length ≤ 21 := by
  rw [Lib.decDigits_length]
  by_cases h : u = 0
  · subst h; rw [Lib.nDigits_small (by omega)]; omega
  · have := Lib.numDigits_eq u (by omega) hu; split at this <;> omega
set_option maxHeartbeats 8000000 in
set_option maxRecDepth 100000 in
theorem appLit_any (base g : Nat) (xs : List UInt8) (u : Nat) (hu64 : u < 18446744073709551616) (w : World) (hc : ∀ j v, (bytesV xs)[j]? = some v → w.cell? ((⟨g, 0, none⟩ : Addr).add j) = some v) (hgw : g < w.heap.size) (hxl : xs.length ≤ 1000) (hP : LibP base w) :
    Calls Tryd.prog 33 #[.slice (some ⟨g, 0, none⟩) xs.length xs.length, .int .u64 u, .int .i64 10] w fun e w' => ∃ v', e = .returned v' ∧ Buf 5 w' w.heap.size v' (xs ++ Lib.decDigits u) ∧ Below w.heap.size w w' := by
  have hd20 := decDigits20 u hu64
  have hd1 := Lib.nDigits_pos u
  rw [← Lib.decDigits_length] at hd1
  obtain ⟨i0, hi, hz0, hz1, hz2⟩ := info_parts u8J2
  have hsz : (⟨(Lib.decDigits u).toArray⟩ : ByteArray).size = (Lib.decDigits u).length := by simp [ByteArray.size]
  by_cases h : u < 100
  · obtain ⟨v', w', hr, ho, hgr⟩ := grows_string (P := Tryd.prog) (w := w) 33 9 33 5 i0 Tryd.underlying33 Tryd.underlying9 hi hz0 hz1 hz2 ⟨g, 0, none⟩ xs.length xs.length (bytesV xs) (by simp [bytesV]) hc ⟨(Lib.decDigits u).toArray⟩ (by rw [hsz]; omega) (by rw [hsz]; omega)
    have hb : Below w.heap.size w w' := (Below.refl w.heap.size w).grown hgr (Nat.le_refl _) (fun k hk => by cases hk)
    have iu : (u : Int) < 100 := by omega
    have HR := Lib.hid hr
    clear hr
    go_enter Tryd.func33, Tryd.ntmps33
    go_wp2_with (first
      | (go_at_call 35; refine (Any.internal_strconv_small { Tryd.laysAppInt with } u h _).mono ?_; rintro e w1 ⟨rfl, rfl⟩)
      | (at_builtin; refine Lib.wpList_append_run _ rfl _ _ 33 9 rfl _ _ rfl rfl v' w' HR.out ?_))
    go_ret
    refine ⟨v', rfl, ?_, hb⟩
    rw [hsz] at ho
    unfold Buf
    rw [bytesV_append, List.length_append]
    exact ho
  · have hnd := Lib.decDigits_length u
    have hal : Tryd.prog.arrayLen 84 = 24 := by kernel_rfl
    have hsl : ∀ W, (Instr.sliceAt 84 (.pointer (some ⟨w.heap.size, 0, none⟩)) none (some (.int .i64 (Lib.nDigits u : Int))) none).run Tryd.prog W = .ok (.slice (some ⟨w.heap.size, 0, none⟩) (Lib.nDigits u) 24) W := fun W => by
      rw [run_sliceAt_array_h W 84 ⟨w.heap.size, 0, none⟩ (by kernel_rfl) .i64 (Lib.nDigits u : Int) (by omega) (by rw [hal]; omega)]
      go_simp
    have hH0 := Lib.holds_zero0 w 84 (Lib.nDigits u) (by omega)
    have hfmt := Any.internal_strconv_formatBase10 { Tryd.laysAppInt with } w.heap.size 0 24 u (Array.replicate (Lib.nDigits u) 0) (w.alloc (.cells Lib.zeros24 84)) hH0 (by rw [Array.size_replicate]; exact Lib.lt_pow_nDigits u) hu64 (by rw [Array.size_replicate]; omega)
    rw [Array.size_replicate] at hfmt
    have HH0 := Lib.hid hH0
    have HF := Lib.hid hfmt
    have iu : ¬ (u : Int) < 100 := by omega
    have HT := Lib.hid (Lib.tabIs_alloc (hP.pow.here) (.cells Lib.zeros24 84))
    clear hH0 hal hfmt
    go_enter Tryd.func33, Tryd.ntmps33
    go_wp2_with (go_at_call 36; refine (Any.internal_strconv_numDigits { Tryd.laysAppInt with } u (by omega) hu64 _ HT.out).mono ?_; rintro e w' ⟨rfl, rfl⟩)
    refine HF.out.mono ?_
    rintro e w' ⟨rfl, k, v', dk, rfl, hF⟩
    obtain ⟨os, eo⟩ := Lib.fin_at w (.cells Lib.zeros24 84) dk k 0
    have hcells : ∀ j u', (bytesV (Lib.decDigits u))[j]? = some u' → ((putRow (fun (b : UInt8) => Value.int .u8 (b.toNat : Int)) (w.alloc (.cells Lib.zeros24 84)) w.heap.size 0 dk).drewN k).cell? ((⟨w.heap.size, 0, none⟩ : Addr).add j) = some u' := by
      intro j u' hj
      have hjl : j < (Lib.decDigits u).length := by
        have h5 := (List.getElem?_eq_some_iff.1 hj).1
        rwa [bytesV_length] at h5
      have e5 : (bytesV (Lib.decDigits u))[j]? = some (Value.int .u8 ((Lib.decDigits u)[j].toNat : Int)) := by simp [bytesV, hjl]
      rw [e5] at hj
      injection hj with hj
      subst hj
      rw [Lib.row_is_numeral hF j hjl, Lib.add_plain, World.cell?_drewN]
      exact cell?_putRow (fun (b : UInt8) => Value.int .u8 (b.toNat : Int)) _ w.heap.size 0 _ dk HH0.out (by rw [hF.size, Array.size_replicate]) j (by rw [hF.size, ← hnd]; exact hjl)
    have hbW : Below w.heap.size w ((putRow (fun (b : UInt8) => Value.int .u8 (b.toNat : Int)) (w.alloc (.cells Lib.zeros24 84)) w.heap.size 0 dk).drewN k) := by rw [eo]; exact Lib.below_grow w.heap.size w (Nat.le_refl _) k os
    generalize (putRow (fun (b : UInt8) => Value.int .u8 (b.toNat : Int)) (w.alloc (.cells Lib.zeros24 84)) w.heap.size 0 dk).drewN k = W2 at hcells hbW ⊢
    have hc2 : ∀ j v, (bytesV xs)[j]? = some v → W2.cell? ((⟨g, 0, none⟩ : Addr).add j) = some v := fun j v hj => (hbW.cell (p := (⟨g, 0, none⟩ : Addr).add j) (by rw [block_of_add]; exact hgw)).trans (hc j v hj)
    have hone : ∀ u' ∈ bytesV (Lib.decDigits u), u'.oneCell' = true := by intro u' hu'; simp only [bytesV, List.mem_map] at hu'; obtain ⟨b, _, rfl⟩ := hu'; rfl
    clear eo HH0 HF HT hF
    go_wp2_with (at_builtin; refine wpList_append_grows _ rfl _ _ 33 rfl 5 i0 (.int .u8 0) 1 1 Tryd.underlying33 hi hz0 hz1 hz2 rfl (by decide) (some ⟨g, 0, none⟩) xs.length xs.length (bytesV xs) rfl (by intro h; cases h) (by simp [bytesV]) (fun b hb j u' h => by injection hb with hb; subst hb; exact hc2 j u' h) ⟨w.heap.size, 0, none⟩ (Lib.nDigits u) 24 (bytesV (Lib.decDigits u)) rfl (by rw [bytesV_length, hnd, Nat.mul_one]) hcells hone (by omega) (by unfold maxLen; omega) (by omega) ?_)
    intro v2 w3 ho hgr
    go_wp2_with fail
    go_ret
    have hb3 : Below w.heap.size W2 w3 := ((Below.refl W2.heap.size W2).grown hgr (Nat.le_refl _) (fun k hk => by cases hk)).mono hbW.size
    refine ⟨v2, rfl, ?_, hbW.trans hb3⟩
    unfold Buf
    rw [bytesV_append, List.length_append, hnd]
    exact ⟨ho.1, ho.2.elim Or.inl (fun ⟨g, cap, cur, hv, hg, r⟩ => Or.inr ⟨g, cap, cur, hv, Nat.le_trans hbW.size hg, r⟩)⟩
theorem appLitIn_any (base g : Nat) (xs : List UInt8) (u : Nat) (hn2 : (u : Int) ≤ 9223372036854775807) (w : World) (hc : ∀ j v, (bytesV xs)[j]? = some v → w.cell? ((⟨g, 0, none⟩ : Addr).add j) = some v) (hgw : g < w.heap.size) (hxl : xs.length ≤ 1000) (hP : LibP base w) :
    Calls Tryd.prog 29 #[.slice (some ⟨g, 0, none⟩) xs.length xs.length, .int .i64 (u : Int), .int .i64 10] w fun e w' => ∃ v', e = .returned v' ∧ Buf 5 w' w.heap.size v' (xs ++ Lib.decDigits u) ∧ Below w.heap.size w w' := by
  have HA := Lib.hid (appLit_any base g xs u (by omega) w hc hgw hxl hP)
  have hneg : ¬ (u : Int) < 0 := by omega
  have hwr : IntKind.u64.wrap (u : Int) = (u : Int) := by rw [IntKind.wrap_u64]; omega
  clear hc hP
  go_enter Tryd.func29, Tryd.ntmps29
  go_wp2_with fail
  refine HA.out.mono ?_
  rintro e w1 ⟨v1, rfl, hb, hB⟩
  go_wp2_with fail
  go_ret
  exact ⟨v1, rfl, hb, hB⟩
/-- The same by strconv's own name, at a number that is not negative. -/
theorem appLitInt_any (base g : Nat) (xs : List UInt8) (n : Int) (hn : 0 ≤ n) (hn2 : n ≤ 9223372036854775807) (w : World) (hc : ∀ j v, (bytesV xs)[j]? = some v → w.cell? ((⟨g, 0, none⟩ : Addr).add j) = some v) (hgw : g < w.heap.size) (hxl : xs.length ≤ 1000) (hP : LibP base w) :
    Calls Tryd.prog 12 #[.slice (some ⟨g, 0, none⟩) xs.length xs.length, .int .i64 n, .int .i64 10] w fun e w' => ∃ v', e = .returned v' ∧ Buf 5 w' w.heap.size v' (xs ++ Lib.itoa n) ∧ Below w.heap.size w w' := by
  obtain ⟨u, rfl⟩ : ∃ u : Nat, n = u := ⟨n.toNat, by omega⟩
  have hi : Lib.itoa (u : Int) = Lib.decDigits u := by unfold Lib.itoa; rw [if_neg (by omega)]; simp
  rw [hi]
  have HA := Lib.hid (appLitIn_any base g xs u hn2 w hc hgw hxl hP)
  clear hc hP
  go_enter Tryd.func12, Tryd.ntmps12
  go_wp2_with fail
  refine HA.out.mono ?_
  rintro e w1 ⟨v1, rfl, hb, hB⟩
  go_wp2_with fail
  go_ret
  exact ⟨v1, rfl, hb, hB⟩
end Go.Proofs.YtoepchgoacdodaaDoor
