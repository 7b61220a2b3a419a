/-
  Several texts in one: JsonY, JsonZ.
-/
import Derived.Test.YtdicoepjkngikaaDoorPkJsD
import Derived.Test.YtdicoepjkngikaaDoorPkBase
import Derived.Test.YtdicoepjkngikaaDoorPkJsC
import Derived.Test.YtdicoepjkngikaaDoorPkStateB
import Derived.Test.YtdicoepjkngikaaDoorPkEq
/-
 Contracts of package json: Parse.
-/
set_option linter.unusedVariables false
set_option linter.unusedSimpArgs false
namespace Go.Proofs.YtdicoepjkngikaaDoor
open Go.RowKit
theorem one_stJ (a : Int) (p1 p2 p3 : Option Addr) (n1 n2 n3 c1 c2 c3 : Nat) : (#[Value.int .i64 a, Value.slice p1 n1 c1, Value.slice p2 n2 c2, Value.slice p3 n3 c3] : Array Value).all (·.oneCell') = true := by simp [Value.oneCell']
theorem growRj (w : World) (g : Nat) (cs : Array Value) : Rt w g (w.setRow g cs) :=
  ⟨rfl, rfl, rfl, by simp, fun k hk hk2 => setRow_other w g k cs (by intro h0; exact hk2 (by rw [h0]))⟩
def noSt : St := ⟨0, [], [], []⟩
theorem noSt_M (w : World) (B : Nat) : StM w B none none none noSt := ⟨Elts.nil_, Elts.nil_, Elts.nil_⟩
def parseS (t : List UInt8) : St := if parseE t = 0 then (readL t).1 else noSt
set_option maxHeartbeats 8000000 in
set_option maxRecDepth 100000 in
theorem Parse_any (t : List UInt8) (w : World) (hJ : LibJ w.heap.size w) :
    Calls Tryd.prog 8 #[.string (bstr t)] w fun e w' => ∃ p1 p2 p3 c1 c2 c3, e = .returned (.tuple #[.agg #[.int .i64 (parseS t).rev, .slice p1 (parseS t).jobs.length c1, .slice p2 (parseS t).nodes.length c2, .slice p3 (parseS t).leases.length c3], .int .i64 (parseE t : Int)]) ∧ StM w' w'.heap.size p1 p2 p3 (parseS t) ∧ Below w.heap.size w w' := by
  have hsz : (bstr t).size = t.length := bstr_size t
  by_cases hlong : 60000 < t.length
  · have hE : parseE t = 2 := by unfold parseE; rw [if_pos hlong]
    have hS : parseS t = noSt := by unfold parseS; rw [hE, if_neg (by decide)]
    rw [hE, hS]
    have hlI : ((bstr t).size : Int) > 60000 := by omega
    have hlJ : (60000 : Int) < (t.length : Int) := by omega
    clear hE hS
    go_enter Tryd.func8, Tryd.ntmps8
    go_wp2_with fail
    refine bodyPost_ret (results_cell_tmp1 rfl _ rfl (Blk.new w 26 #[.int .i64 0, .slice none 0 0, .slice none 0 0, .slice none 0 0]) Tryd.underlying26 rfl state_size4) rfl ?_
    exact ⟨none, none, none, 0, 0, 0, rfl, noSt_M _ _, (Below.refl _ _).alloc (Nat.le_refl _) _⟩
  · have hE : parseE t = if (readL t).2.2 = true ∨ (readL t).2.1 ≠ [] ∨ checkE (readL t).1 ≠ 0 ∨ printL (readL t).1 ≠ t then 4 else 0 := by unfold parseE; rw [if_neg hlong]
    have hSZ := readL_sz (t := t) (by omega)
    have hlI : ¬ ((bstr t).size : Int) > 60000 := by omega
    have hlJ : ¬ (60000 : Int) < (t.length : Int) := by omega
    have hlK : ¬ 60000 < t.length := hlong
    have HE := Lib.hid hE
    have HZ := Lib.hid hSZ
    clear hE hSZ
    go_enter Tryd.func8, Tryd.ntmps8
    go_wp2_with fail
    have hbR : RdB ((w.alloc (.cells #[.int .i64 0, .slice none 0 0, .slice none 0 0, .slice none 0 0] 26)).alloc (.cells #[.string (bstr t), .bool false] 44)) (w.heap.size + 1) (t, false) := by have h := Blk.new (w.alloc (.cells #[.int .i64 0, .slice none 0 0, .slice none 0 0, .slice none 0 0] 26)) 44 #[.string (bstr t), .bool false]; simpa [RdB] using h
    have bx0 := (Blk.new w 26 #[.int .i64 0, .slice none 0 0, .slice none 0 0, .slice none 0 0]).alloc (.cells #[.string (bstr t), .bool false] 44)
    have hB0 : Below w.heap.size w ((w.alloc (.cells #[.int .i64 0, .slice none 0 0, .slice none 0 0, .slice none 0 0] 26)).alloc (.cells #[.string (bstr t), .bool false] 44)) := ((Below.refl _ _).alloc (Nat.le_refl _) _).alloc (by simp) _
    generalize (w.alloc (.cells #[.int .i64 0, .slice none 0 0, .slice none 0 0, .slice none 0 0] 26)).alloc (.cells #[.string (bstr t), .bool false] 44) = W at *
    have HM : Hid (Calls Tryd.prog 13 #[.pointer (some ⟨w.heap.size + 1, 0, none⟩), .string ⟨#[123, 34, 114, 101, 118, 34, 58]⟩] W fun e w' => e = .returned (.tuple #[]) ∧ RdB w' (w.heap.size + 1) (mustL hdrJ (t, false)) ∧ Rt W (w.heap.size + 1) w') := Lib.hid (must_any (w.heap.size + 1) (t, false) ⟨#[123, 34, 114, 101, 118, 34, 58]⟩ W hbR)
    have hq1 : (mustL hdrJ (t, false)).1.length ≤ 60000 := Nat.le_trans (mustL_le _ _) (by show t.length ≤ 60000; omega)
    refine HM.out.mono ?_
    rintro e w1 ⟨rfl, hb1, hR1⟩
    have hT1 := hB0.trans (hR1.below (B := w.heap.size) (by omega) hB0.size)
    have bx1 := hR1.blk bx0 (by omega)
    clear HM hbR bx0 hR1
    go_wp2_with fail
    refine (jnumber_any w.heap.size (w.heap.size + 1) (mustL hdrJ (t, false)) hq1 w1 hb1 (hJ.below hT1)).mono ?_
    rintro e w2 ⟨rfl, hb2, hR2⟩
    have hT2 := hT1.trans (hR2.below (B := w.heap.size) (by omega) hT1.size)
    have bx2 := hR2.blk bx1 (by omega)
    clear hb1 bx1 hR2
    have hle2 := Nat.le_trans (numR_le (mustL hdrJ (t, false))) hq1
    go_wp2_with fail
    have hRL : readL t = (⟨(numR (mustL hdrJ (t, false))).1, (elR specJ nJobs (numR (mustL hdrJ (t, false))).2).1.map toJ, (elR specN nNodes (elR specJ nJobs (numR (mustL hdrJ (t, false))).2).2).1.map toN, (elR specL nLeases (elR specN nNodes (elR specJ nJobs (numR (mustL hdrJ (t, false))).2).2).2).1.map toL⟩, mustL [125] (elR specL nLeases (elR specN nNodes (elR specJ nJobs (numR (mustL hdrJ (t, false))).2).2).2).2) := rfl
    generalize numR (mustL hdrJ (t, false)) = r1 at *
    have HRL := Lib.hid hRL
    clear hRL
    have hb3 : RdB (w2.alloc (.cells #[.int .i64 r1.1, .slice none 0 0, .slice none 0 0, .slice none 0 0] 26)) (w.heap.size + 1) r1.2 := Blk.alloc hb2 _
    have hT3 := hT2.alloc hT2.size (.cells #[.int .i64 r1.1, .slice none 0 0, .slice none 0 0, .slice none 0 0] 26)
    have bs3 := Blk.new w2 26 #[.int .i64 r1.1, .slice none 0 0, .slice none 0 0, .slice none 0 0]
    have bx3 := bx2.alloc (.cells #[.int .i64 r1.1, .slice none 0 0, .slice none 0 0, .slice none 0 0] 26)
    have hs2 : w.heap.size + 2 ≤ w2.heap.size := by have := Blk.lt hb2; omega
    have hs3 := bs3.lt
    generalize w2.alloc (.cells #[.int .i64 r1.1, .slice none 0 0, .slice none 0 0, .slice none 0 0] 26) = w3 at *
    have HEJ : Hid (Calls Tryd.prog 15 #[.pointer (some ⟨w.heap.size + 1, 0, none⟩), .string ⟨#[106, 111, 98, 115]⟩, .func (.func 16) #[] #[]] w3 fun e w' => ∃ v, e = .returned v ∧ RwJ w' w3.heap.size v ((elR specJ nJobs r1.2).1.map toJ) ∧ RdB w' (w.heap.size + 1) (elR specJ nJobs r1.2).2 ∧ Rt w3 (w.heap.size + 1) w') := Lib.hid (elemsJ_any w.heap.size (w.heap.size + 1) r1.2 hle2 w3 hb3 hT3.size (by omega) (hJ.below hT3))
    have hea := elR_B 60000 specJ nJobs r1.2 hle2
    generalize elR specJ nJobs r1.2 = ea at *
    refine HEJ.out.mono ?_
    rintro e w4 ⟨v4, rfl, hown4, hb4, hR4⟩
    have bs4 := hR4.blk bs3 (by omega)
    have bx4 := hR4.blk bx3 (by omega)
    have hT4 := hT3.trans (hR4.below (B := w.heap.size) (by omega) hT3.size)
    obtain ⟨p1, c1, rfl⟩ : ∃ p1 c1, v4 = .slice p1 (ea.1.map toJ).length c1 := by
      rcases hown4.2 with ⟨h, h0⟩ | ⟨g, cap, cur, h, _⟩
      · exact ⟨_, _, by rw [h, h0]⟩
      · exact ⟨_, _, h⟩
    have k4 := bs4.frozen 1
    have j4 : w4.cell? ⟨w2.heap.size, 1, none⟩ = some (.slice none 0 0) := bs4.cell 1
    clear HEJ bs3 bx3 hb3 hR4
    go_wp2_with fail
    have hJ5 := hown4.rt (Rt.set_ w4 w2.heap.size 1 (.slice p1 ea.1.length c1)) (by omega)
    have bs5 : Blk (w4.setCell ⟨w2.heap.size, 1, none⟩ (.slice p1 ea.1.length c1)) w2.heap.size 26 #[.int .i64 r1.1, .slice p1 ea.1.length c1, .slice none 0 0, .slice none 0 0] := bs4.set_ 1 _
    have bx5 := bx4.far (p := ⟨w2.heap.size, 1, none⟩) (by show w.heap.size ≠ w2.heap.size; omega) (.slice p1 ea.1.length c1)
    have hb5 : RdB (w4.setCell ⟨w2.heap.size, 1, none⟩ (.slice p1 ea.1.length c1)) (w.heap.size + 1) ea.2 := Blk.far hb4 (by show w.heap.size + 1 ≠ w2.heap.size; omega) _
    have hT5 := hT4.trans ((Rt.set_ w4 w2.heap.size 1 (.slice p1 ea.1.length c1)).below (B := w.heap.size) (by omega) hT4.size)
    generalize hw5 : w4.setCell ⟨w2.heap.size, 1, none⟩ (.slice p1 ea.1.length c1) = w5 at *
    have HEN : Hid (Calls Tryd.prog 17 #[.pointer (some ⟨w.heap.size + 1, 0, none⟩), .string ⟨#[110, 111, 100, 101, 115]⟩, .func (.func 18) #[] #[]] w5 fun e w' => ∃ v, e = .returned v ∧ RwN w' w5.heap.size v ((elR specN nNodes ea.2).1.map toN) ∧ RdB w' (w.heap.size + 1) (elR specN nNodes ea.2).2 ∧ Rt w5 (w.heap.size + 1) w') := Lib.hid (elemsN_any w.heap.size (w.heap.size + 1) ea.2 hea.2.2 w5 hb5 hT5.size (by omega) (hJ.below hT5))
    have heb := elR_B 60000 specN nNodes ea.2 hea.2.2
    generalize elR specN nNodes ea.2 = eb at *
    refine HEN.out.mono ?_
    rintro e w6 ⟨v6, rfl, hown6, hb6, hR6⟩
    have hs5 : w2.heap.size < w5.heap.size := bs5.lt
    have bs6 := hR6.blk bs5 (by omega)
    have bx6 := hR6.blk bx5 (by omega)
    have hT6 := hT5.trans (hR6.below (B := w.heap.size) (by omega) hT5.size)
    obtain ⟨p2, c2, rfl⟩ : ∃ p2 c2, v6 = .slice p2 (eb.1.map toN).length c2 := by
      rcases hown6.2 with ⟨h, h0⟩ | ⟨g, cap, cur, h, _⟩
      · exact ⟨_, _, by rw [h, h0]⟩
      · exact ⟨_, _, h⟩
    have k6 := bs6.frozen 2
    have j6 : w6.cell? ⟨w2.heap.size, 2, none⟩ = some (.slice none 0 0) := bs6.cell 2
    have hJ6 := hJ5.rt hR6 (by omega)
    clear HEN bs5 bx5 hb5 hR6
    go_wp2_with fail
    have hJ7 := hJ6.rt (Rt.set_ w6 w2.heap.size 2 (.slice p2 eb.1.length c2)) (by omega)
    have hN7 := hown6.rt (Rt.set_ w6 w2.heap.size 2 (.slice p2 eb.1.length c2)) (by omega)
    have hs6 : w2.heap.size < w6.heap.size := bs6.lt
    have bs7 : Blk (w6.setCell ⟨w2.heap.size, 2, none⟩ (.slice p2 eb.1.length c2)) w2.heap.size 26 #[.int .i64 r1.1, .slice p1 ea.1.length c1, .slice p2 eb.1.length c2, .slice none 0 0] := bs6.set_ 2 _
    have bx7 := bx6.far (p := ⟨w2.heap.size, 2, none⟩) (by show w.heap.size ≠ w2.heap.size; omega) (.slice p2 eb.1.length c2)
    have hb7 : RdB (w6.setCell ⟨w2.heap.size, 2, none⟩ (.slice p2 eb.1.length c2)) (w.heap.size + 1) eb.2 := Blk.far hb6 (by show w.heap.size + 1 ≠ w2.heap.size; omega) _
    have hT7 := hT6.trans ((Rt.set_ w6 w2.heap.size 2 (.slice p2 eb.1.length c2)).below (B := w.heap.size) (by omega) hT6.size)
    generalize hw7 : w6.setCell ⟨w2.heap.size, 2, none⟩ (.slice p2 eb.1.length c2) = w7 at *
    have HEL : Hid (Calls Tryd.prog 19 #[.pointer (some ⟨w.heap.size + 1, 0, none⟩), .string ⟨#[108, 101, 97, 115, 101, 115]⟩, .func (.func 20) #[] #[]] w7 fun e w' => ∃ v, e = .returned v ∧ RwL w' w7.heap.size v ((elR specL nLeases eb.2).1.map toL) ∧ RdB w' (w.heap.size + 1) (elR specL nLeases eb.2).2 ∧ Rt w7 (w.heap.size + 1) w') := Lib.hid (elemsL_any w.heap.size (w.heap.size + 1) eb.2 heb.2.2 w7 hb7 hT7.size (by omega) (hJ.below hT7))
    have hec := elR_B 60000 specL nLeases eb.2 heb.2.2
    generalize elR specL nLeases eb.2 = ec at *
    refine HEL.out.mono ?_
    rintro e w8 ⟨v8, rfl, hown8, hb8, hR8⟩
    have bs8 := hR8.blk bs7 (by omega)
    have bx8 := hR8.blk bx7 (by omega)
    have hT8 := hT7.trans (hR8.below (B := w.heap.size) (by omega) hT7.size)
    obtain ⟨p3, c3, rfl⟩ : ∃ p3 c3, v8 = .slice p3 (ec.1.map toL).length c3 := by
      rcases hown8.2 with ⟨h, h0⟩ | ⟨g, cap, cur, h, _⟩
      · exact ⟨_, _, by rw [h, h0]⟩
      · exact ⟨_, _, h⟩
    have k8 := bs8.frozen 3
    have j8 : w8.cell? ⟨w2.heap.size, 3, none⟩ = some (.slice none 0 0) := bs8.cell 3
    have hJ8 := hJ7.rt hR8 (by omega)
    have hN8 := hN7.rt hR8 (by omega)
    have hs7 := bs7.lt
    clear HEL bs7 bx7 hb7 hR8
    go_wp2_with fail
    have hs8 : w2.heap.size < w8.heap.size := bs8.lt
    have bs9 : Blk (w8.setCell ⟨w2.heap.size, 3, none⟩ (.slice p3 ec.1.length c3)) w2.heap.size 26 #[.int .i64 r1.1, .slice p1 ea.1.length c1, .slice p2 eb.1.length c2, .slice p3 ec.1.length c3] := bs8.set_ 3 _
    have bx9 := bx8.far (p := ⟨w2.heap.size, 3, none⟩) (by show w.heap.size ≠ w2.heap.size; omega) (.slice p3 ec.1.length c3)
    have hb9 : RdB (w8.setCell ⟨w2.heap.size, 3, none⟩ (.slice p3 ec.1.length c3)) (w.heap.size + 1) ec.2 := Blk.far hb8 (by show w.heap.size + 1 ≠ w2.heap.size; omega) _
    have hT9 := hT8.trans ((Rt.set_ w8 w2.heap.size 3 (.slice p3 ec.1.length c3)).below (B := w.heap.size) (by omega) hT8.size)
    have hJ9 := hJ8.rt (Rt.set_ w8 w2.heap.size 3 (.slice p3 ec.1.length c3)) (by omega)
    have hN9 := hN8.rt (Rt.set_ w8 w2.heap.size 3 (.slice p3 ec.1.length c3)) (by omega)
    have hL9 := hown8.rt (Rt.set_ w8 w2.heap.size 3 (.slice p3 ec.1.length c3)) (by omega)
    generalize hw9 : w8.setCell ⟨w2.heap.size, 3, none⟩ (.slice p3 ec.1.length c3) = w9 at *
    have HM : Hid (Calls Tryd.prog 13 #[.pointer (some ⟨w.heap.size + 1, 0, none⟩), .string ⟨#[125]⟩] w9 fun e w' => e = .returned (.tuple #[]) ∧ RdB w' (w.heap.size + 1) (mustL [125] ec.2) ∧ Rt w9 (w.heap.size + 1) w') := Lib.hid (must_any (w.heap.size + 1) ec.2 ⟨#[125]⟩ w9 hb9)
    refine HM.out.mono ?_
    rintro e w10 ⟨rfl, hb10, hR10⟩
    have hs9 := bs9.lt
    have bs10 := hR10.blk bs9 (by omega)
    have bx10 := hR10.blk bx9 (by omega)
    have hT10 := hT9.trans (hR10.below (B := w.heap.size) (by omega) hT9.size)
    have hJ10 := hJ9.rt hR10 (by omega)
    have hN10 := hN9.rt hR10 (by omega)
    have hL10 := hL9.rt hR10 (by omega)
    have hM : StM w10 w10.heap.size p1 p2 p3 ⟨r1.1, ea.1.map toJ, eb.1.map toN, ec.1.map toL⟩ :=
      ⟨Elts.of_reads (fun r hr => by obtain ⟨x, _, rfl⟩ := List.mem_map.1 hr; rfl) (by rw [← List.flatMap_def]; exact Reads.of_own hJ10) (by simp),
       Elts.of_reads (fun r hr => by obtain ⟨x, _, rfl⟩ := List.mem_map.1 hr; rfl) (by rw [← List.flatMap_def]; exact Reads.of_own hN10) (by simp),
       Elts.of_reads (fun r hr => by obtain ⟨x, _, rfl⟩ := List.mem_map.1 hr; rfl) (by rw [← List.flatMap_def]; exact Reads.of_own hL10) (by simp)⟩
    have hrl := HRL.out
    generalize mustL [125] ec.2 = q at *
    obtain ⟨lq, bq⟩ := q
    have hE := HE.out
    have hz := HZ.out
    rw [hrl] at hE hz
    have hS : parseS t = if parseE t = 0 then (readL t).1 else noSt := rfl
    rw [hrl] at hS
    have hz : StSz ⟨r1.1, ea.1.map toJ, eb.1.map toN, ec.1.map toL⟩ := hz
    have HC : Hid (∀ W, Below w10.heap.size w10 W → Calls Tryd.prog 7 #[.agg #[.int .i64 r1.1, .slice p1 ea.1.length c1, .slice p2 eb.1.length c2, .slice p3 ec.1.length c3]] W fun e w' => e = .returned (.int .i64 (checkE ⟨r1.1, ea.1.map toJ, eb.1.map toN, ec.1.map toL⟩ : Int)) ∧ Below W.heap.size W w') := Lib.hid (fun W hW => by
      have h := stCheck_any ⟨r1.1, ea.1.map toJ, eb.1.map toN, ec.1.map toL⟩ p1 p2 p3 c1 c2 c3 W ((hM.below hW).more hW.size) hz ((hJ.below (hT10.trans (hW.mono hT10.size))).p.here)
      simpa only [List.length_map] using h)
    have HP : Hid (∀ W, Below w10.heap.size w10 W → Fine ⟨r1.1, ea.1.map toJ, eb.1.map toN, ec.1.map toL⟩ → Calls Tryd.prog 11 #[.agg #[.int .i64 r1.1, .slice p1 ea.1.length c1, .slice p2 eb.1.length c2, .slice p3 ec.1.length c3]] W fun e w' => e = .returned (.string (bstr (printL ⟨r1.1, ea.1.map toJ, eb.1.map toN, ec.1.map toL⟩))) ∧ Below W.heap.size W w') := Lib.hid (fun W hW F => by
      have hl := hT10.trans (hW.mono hT10.size)
      have h := printed_any ⟨r1.1, ea.1.map toJ, eb.1.map toN, ec.1.map toL⟩ p1 p2 p3 c1 c2 c3 W ((hM.below hW).more hW.size) F (((hJ.below hl).p).more hl.size)
      simpa only [List.length_map] using h)
    --TAIL
    have HK : Hid ((∀ W, Abv w10 W → W.cell? ⟨w.heap.size + 1, 0, none⟩ = some (.string (bstr lq))) ∧ (∀ W, Abv w10 W → W.cell? ⟨w.heap.size + 1, 1, none⟩ = some (.bool bq)) ∧ (∀ W, Abv w10 W → W.cell? ⟨w2.heap.size, 0, none⟩ = some (.int .i64 r1.1)) ∧ (∀ W, Abv w10 W → W.cell? ⟨w2.heap.size, 1, none⟩ = some (.slice p1 ea.1.length c1)) ∧ (∀ W, Abv w10 W → W.cell? ⟨w2.heap.size, 2, none⟩ = some (.slice p2 eb.1.length c2)) ∧ (∀ W, Abv w10 W → W.cell? ⟨w2.heap.size, 3, none⟩ = some (.slice p3 ec.1.length c3))) := Lib.hid ⟨fun W hW => (hb10.below hW hb10.lt).cell 0, fun W hW => (hb10.below hW hb10.lt).cell 1, fun W hW => (bs10.below hW bs10.lt).cell 0, fun W hW => (bs10.below hW bs10.lt).cell 1, fun W hW => (bs10.below hW bs10.lt).cell 2, fun W hW => (bs10.below hW bs10.lt).cell 3⟩
    have HBS := Lib.hid (fun W (hW : Abv w10 W) => bs10.below hW bs10.lt)
    have HBX := Lib.hid (fun W (hW : Abv w10 W) => bx10.below hW bx10.lt)
    have HMM := Lib.hid hM
    have HOW : Hid (∀ W, Rt w10 w.heap.size W → StM W W.heap.size p1 p2 p3 ⟨r1.1, ea.1.map toJ, eb.1.map toN, ec.1.map toL⟩) := Lib.hid (fun W hW =>
      ⟨Elts.of_reads (fun r hr => by obtain ⟨x, _, rfl⟩ := List.mem_map.1 hr; rfl) (by rw [← List.flatMap_def]; exact Reads.of_own (hJ10.rt hW (by omega))) (by simp),
       Elts.of_reads (fun r hr => by obtain ⟨x, _, rfl⟩ := List.mem_map.1 hr; rfl) (by rw [← List.flatMap_def]; exact Reads.of_own (hN10.rt hW (by omega))) (by simp),
       Elts.of_reads (fun r hr => by obtain ⟨x, _, rfl⟩ := List.mem_map.1 hr; rfl) (by rw [← List.flatMap_def]; exact Reads.of_own (hL10.rt hW (by omega))) (by simp)⟩)
    have HTT := Lib.hid hT10
    have HEE := Lib.hid hE
    have HSS := Lib.hid hS
    have HZZ := Lib.hid hz
    clear HRL HE HZ hrl hE hS hz hM hJ10 hN10 hL10 HM hb9 bs9 bx9 hR10 hJ9 hN9 hL9 hb10 hT9
    go_upto_region 10 with (fail)
    cases bq with
    | true =>
      have A0 : Abv w10 w10 := Below.refl _ _
      have r0 := HK.out.1 _ A0
      have r1_ := HK.out.2.1 _ A0
      have bS := HBS.out _ A0
      have bX := HBX.out _ A0
      have hT := HTT.out.trans (A0.mono HTT.out.size)
      go_wp2_with (first | (refine wpList_load_blk_w (by rfl) _ _ rfl w2.heap.size rfl _ #[Value.int .i64 r1.1, Value.slice p1 ea.1.length c1, Value.slice p2 eb.1.length c2, Value.slice p3 ec.1.length c3] bS _ Tryd.underlying26 rfl state_size4 ?_) | (refine wpList_store_blk rfl _ _ _ rfl w.heap.size rfl _ _ #[Value.int .i64 0, Value.slice none 0 0, Value.slice none 0 0, Value.slice none 0 0] bX rfl state_size4 rfl (one_stJ _ _ _ _ _ _ _ _ _ _) ?_))
      have hE4 : parseE t = 4 := by rw [HEE.out]; exact if_pos (by first | exact Or.inl trivial | exact Or.inl rfl)
      have hS4 : parseS t = noSt := by rw [HSS.out, hE4]; rfl
      rw [hS4, hE4]
      refine bodyPost_ret (results_cell_tmp1 rfl _ rfl (bX.setRow #[Value.int .i64 0, Value.slice none 0 0, Value.slice none 0 0, Value.slice none 0 0]) Tryd.underlying26 rfl state_size4) rfl ?_
      first | exact ⟨none, none, none, 0, 0, 0, rfl, noSt_M _ _, below_setRow hT (Nat.le_refl _) _⟩ | exact ⟨none, none, none, ⟨0, 0, 0, rfl⟩, noSt_M _ _, below_setRow hT (Nat.le_refl _) _⟩
    | false =>
      by_cases hlq : lq = []
      · have hne0 : (bstr lq).toList.isEmpty = true := by rw [hlq, bstr_toList]; rfl
        have HLQ := Lib.hid hlq
        clear hlq
        by_cases hck : checkE ⟨r1.1, ea.1.map toJ, eb.1.map toN, ec.1.map toL⟩ = 0
        · have FF := Lib.hid ((fine_iff _).1 hck)
          have hk0 : (((checkE ⟨r1.1, ea.1.map toJ, eb.1.map toN, ec.1.map toL⟩ : Nat) : Int) != 0) = false := by rw [hck]; rfl
          have HCK := Lib.hid hck
          clear hck
          by_cases hpt : printL ⟨r1.1, ea.1.map toJ, eb.1.map toN, ec.1.map toL⟩ = t
          · have hp0 : ((bstr (printL ⟨r1.1, ea.1.map toJ, eb.1.map toN, ec.1.map toL⟩)).toList == (bstr t).toList) = true := by rw [hpt]; simp
            have HPT := Lib.hid hpt
            clear hpt
            have A0 : Abv w10 w10 := Below.refl _ _
            have r0 := HK.out.1 _ A0
            have r1_ := HK.out.2.1 _ A0
            have bS := HBS.out _ A0
            go_wp2_with (first | (refine wpList_load_blk_w (by rfl) _ _ rfl w2.heap.size rfl _ #[Value.int .i64 r1.1, Value.slice p1 ea.1.length c1, Value.slice p2 eb.1.length c2, Value.slice p3 ec.1.length c3] bS _ Tryd.underlying26 rfl state_size4 ?_))
            refine (HC.out _ A0).mono ?_
            rintro e u1 ⟨rfl, hb1⟩
            have A1 := Abv.step A0 hb1
            clear hb1 r0 r1_ bS
            have r0 := HK.out.1 _ A1
            have r1_ := HK.out.2.1 _ A1
            have bS := HBS.out _ A1
            go_wp2_with (first | (refine wpList_load_blk_w (by rfl) _ _ rfl w2.heap.size rfl _ #[Value.int .i64 r1.1, Value.slice p1 ea.1.length c1, Value.slice p2 eb.1.length c2, Value.slice p3 ec.1.length c3] bS _ Tryd.underlying26 rfl state_size4 ?_))
            refine (HP.out _ A1 FF.out).mono ?_
            rintro e u2 ⟨rfl, hb2⟩
            have A2 := Abv.step A1 hb2
            clear hb2 r0 r1_ bS
            have r0 := HK.out.1 _ A2
            have r1_ := HK.out.2.1 _ A2
            have bS := HBS.out _ A2
            have bX := HBX.out _ A2
            have hT := HTT.out.trans (A2.mono HTT.out.size)
            go_wp2_with (first | (refine wpList_load_blk_w (by rfl) _ _ rfl w2.heap.size rfl _ _ bS _ Tryd.underlying26 rfl state_size4 ?_) | (refine wpList_store_blk rfl _ _ _ rfl w.heap.size rfl _ _ #[Value.int .i64 r1.1, Value.slice p1 ea.1.length c1, Value.slice p2 eb.1.length c2, Value.slice p3 ec.1.length c3] bX rfl state_size4 rfl (one_stJ _ _ _ _ _ _ _ _ _ _) ?_))
            have hE0 : parseE t = 0 := by rw [HEE.out]; exact if_neg (fun h => by rcases h with h | h | h | h; (focus cases h); (focus exact h HLQ.out); (focus exact h HCK.out); (focus exact h HPT.out))
            have hS0 : parseS t = ⟨r1.1, ea.1.map toJ, eb.1.map toN, ec.1.map toL⟩ := by rw [HSS.out, if_pos hE0]
            rw [hS0, hE0]
            refine bodyPost_ret (results_cell_tmp1 rfl _ rfl (bX.setRow #[Value.int .i64 r1.1, Value.slice p1 ea.1.length c1, Value.slice p2 eb.1.length c2, Value.slice p3 ec.1.length c3]) Tryd.underlying26 rfl state_size4) rfl ?_
            have hMy : StM (u2.setRow w.heap.size #[Value.int .i64 r1.1, Value.slice p1 ea.1.length c1, Value.slice p2 eb.1.length c2, Value.slice p3 ec.1.length c3]) (u2.setRow w.heap.size #[Value.int .i64 r1.1, Value.slice p1 ea.1.length c1, Value.slice p2 eb.1.length c2, Value.slice p3 ec.1.length c3]).heap.size p1 p2 p3 ⟨r1.1, ea.1.map toJ, eb.1.map toN, ec.1.map toL⟩ := HOW.out _ ((Rt.new A2).trans (growRj _ _ _))
            first | exact ⟨p1, p2, p3, c1, c2, c3, by simp only [List.length_map]; rfl, hMy, below_setRow hT (Nat.le_refl _) _⟩ | exact ⟨p1, p2, p3, ⟨c1, c2, c3, by simp only [List.length_map]; rfl⟩, hMy, below_setRow hT (Nat.le_refl _) _⟩
          · have hp0 : ((bstr (printL ⟨r1.1, ea.1.map toJ, eb.1.map toN, ec.1.map toL⟩)).toList == (bstr t).toList) = false := by rw [beq_eq_false_iff_ne]; intro h; rw [bstr_toList, bstr_toList] at h; exact hpt h
            have HPT := Lib.hid hpt
            clear hpt
            have A0 : Abv w10 w10 := Below.refl _ _
            have r0 := HK.out.1 _ A0
            have r1_ := HK.out.2.1 _ A0
            have bS := HBS.out _ A0
            go_wp2_with (first | (refine wpList_load_blk_w (by rfl) _ _ rfl w2.heap.size rfl _ #[Value.int .i64 r1.1, Value.slice p1 ea.1.length c1, Value.slice p2 eb.1.length c2, Value.slice p3 ec.1.length c3] bS _ Tryd.underlying26 rfl state_size4 ?_))
            refine (HC.out _ A0).mono ?_
            rintro e u1 ⟨rfl, hb1⟩
            have A1 := Abv.step A0 hb1
            clear hb1 r0 r1_ bS
            have r0 := HK.out.1 _ A1
            have r1_ := HK.out.2.1 _ A1
            have bS := HBS.out _ A1
            go_wp2_with (first | (refine wpList_load_blk_w (by rfl) _ _ rfl w2.heap.size rfl _ #[Value.int .i64 r1.1, Value.slice p1 ea.1.length c1, Value.slice p2 eb.1.length c2, Value.slice p3 ec.1.length c3] bS _ Tryd.underlying26 rfl state_size4 ?_))
            refine (HP.out _ A1 FF.out).mono ?_
            rintro e u2 ⟨rfl, hb2⟩
            have A2 := Abv.step A1 hb2
            clear hb2 r0 r1_ bS
            have r0 := HK.out.1 _ A2
            have r1_ := HK.out.2.1 _ A2
            have bS := HBS.out _ A2
            have bX := HBX.out _ A2
            have hT := HTT.out.trans (A2.mono HTT.out.size)
            go_wp2_with (first | (refine wpList_load_blk_w (by rfl) _ _ rfl w2.heap.size rfl _ #[Value.int .i64 r1.1, Value.slice p1 ea.1.length c1, Value.slice p2 eb.1.length c2, Value.slice p3 ec.1.length c3] bS _ Tryd.underlying26 rfl state_size4 ?_) | (refine wpList_store_blk rfl _ _ _ rfl w.heap.size rfl _ _ #[Value.int .i64 0, Value.slice none 0 0, Value.slice none 0 0, Value.slice none 0 0] bX rfl state_size4 rfl (one_stJ _ _ _ _ _ _ _ _ _ _) ?_))
            have hE4 : parseE t = 4 := by rw [HEE.out]; exact if_pos (Or.inr (Or.inr (Or.inr HPT.out)))
            have hS4 : parseS t = noSt := by rw [HSS.out, hE4]; rfl
            rw [hS4, hE4]
            refine bodyPost_ret (results_cell_tmp1 rfl _ rfl (bX.setRow #[Value.int .i64 0, Value.slice none 0 0, Value.slice none 0 0, Value.slice none 0 0]) Tryd.underlying26 rfl state_size4) rfl ?_
            first | exact ⟨none, none, none, 0, 0, 0, rfl, noSt_M _ _, below_setRow hT (Nat.le_refl _) _⟩ | exact ⟨none, none, none, ⟨0, 0, 0, rfl⟩, noSt_M _ _, below_setRow hT (Nat.le_refl _) _⟩
        · have hk0 : (((checkE ⟨r1.1, ea.1.map toJ, eb.1.map toN, ec.1.map toL⟩ : Nat) : Int) != 0) = true := by rw [bne_iff_ne]; omega
          have HCK := Lib.hid hck
          clear hck
          have A0 : Abv w10 w10 := Below.refl _ _
          have r0 := HK.out.1 _ A0
          have r1_ := HK.out.2.1 _ A0
          have bS := HBS.out _ A0
          go_wp2_with (first | (refine wpList_load_blk_w (by rfl) _ _ rfl w2.heap.size rfl _ #[Value.int .i64 r1.1, Value.slice p1 ea.1.length c1, Value.slice p2 eb.1.length c2, Value.slice p3 ec.1.length c3] bS _ Tryd.underlying26 rfl state_size4 ?_))
          refine (HC.out _ A0).mono ?_
          rintro e u1 ⟨rfl, hb1⟩
          have A1 := Abv.step A0 hb1
          clear hb1 r0 r1_ bS
          have r0 := HK.out.1 _ A1
          have r1_ := HK.out.2.1 _ A1
          have bS := HBS.out _ A1
          have bX := HBX.out _ A1
          have hT := HTT.out.trans (A1.mono HTT.out.size)
          go_wp2_with (first | (refine wpList_load_blk_w (by rfl) _ _ rfl w2.heap.size rfl _ #[Value.int .i64 r1.1, Value.slice p1 ea.1.length c1, Value.slice p2 eb.1.length c2, Value.slice p3 ec.1.length c3] bS _ Tryd.underlying26 rfl state_size4 ?_) | (refine wpList_store_blk rfl _ _ _ rfl w.heap.size rfl _ _ #[Value.int .i64 0, Value.slice none 0 0, Value.slice none 0 0, Value.slice none 0 0] bX rfl state_size4 rfl (one_stJ _ _ _ _ _ _ _ _ _ _) ?_))
          have hE4 : parseE t = 4 := by rw [HEE.out]; exact if_pos (Or.inr (Or.inr (Or.inl HCK.out)))
          have hS4 : parseS t = noSt := by rw [HSS.out, hE4]; rfl
          rw [hS4, hE4]
          refine bodyPost_ret (results_cell_tmp1 rfl _ rfl (bX.setRow #[Value.int .i64 0, Value.slice none 0 0, Value.slice none 0 0, Value.slice none 0 0]) Tryd.underlying26 rfl state_size4) rfl ?_
          first | exact ⟨none, none, none, 0, 0, 0, rfl, noSt_M _ _, below_setRow hT (Nat.le_refl _) _⟩ | exact ⟨none, none, none, ⟨0, 0, 0, rfl⟩, noSt_M _ _, below_setRow hT (Nat.le_refl _) _⟩
      · have hne0 : (bstr lq).toList.isEmpty = false := by rw [bstr_toList]; cases lq with | nil => exact absurd rfl hlq | cons a b => rfl
        have HLQ := Lib.hid hlq
        clear hlq
        have A0 : Abv w10 w10 := Below.refl _ _
        have r0 := HK.out.1 _ A0
        have r1_ := HK.out.2.1 _ A0
        have bS := HBS.out _ A0
        have bX := HBX.out _ A0
        have hT := HTT.out.trans (A0.mono HTT.out.size)
        go_wp2_with (first | (refine wpList_load_blk_w (by rfl) _ _ rfl w2.heap.size rfl _ #[Value.int .i64 r1.1, Value.slice p1 ea.1.length c1, Value.slice p2 eb.1.length c2, Value.slice p3 ec.1.length c3] bS _ Tryd.underlying26 rfl state_size4 ?_) | (refine wpList_store_blk rfl _ _ _ rfl w.heap.size rfl _ _ #[Value.int .i64 0, Value.slice none 0 0, Value.slice none 0 0, Value.slice none 0 0] bX rfl state_size4 rfl (one_stJ _ _ _ _ _ _ _ _ _ _) ?_))
        have hE4 : parseE t = 4 := by rw [HEE.out]; exact if_pos (Or.inr (Or.inl HLQ.out))
        have hS4 : parseS t = noSt := by rw [HSS.out, hE4]; rfl
        rw [hS4, hE4]
        refine bodyPost_ret (results_cell_tmp1 rfl _ rfl (bX.setRow #[Value.int .i64 0, Value.slice none 0 0, Value.slice none 0 0, Value.slice none 0 0]) Tryd.underlying26 rfl state_size4) rfl ?_
        first | exact ⟨none, none, none, 0, 0, 0, rfl, noSt_M _ _, below_setRow hT (Nat.le_refl _) _⟩ | exact ⟨none, none, none, ⟨0, 0, 0, rfl⟩, noSt_M _ _, below_setRow hT (Nat.le_refl _) _⟩
end Go.Proofs.YtdicoepjkngikaaDoor

/-
 Contracts of package json as the laws take them.
-/
set_option linter.unusedVariables false
set_option linter.unusedSimpArgs false
namespace Go.Proofs.YtdicoepjkngikaaDoor
open Go.RowKit
theorem LibJ.at_ {w W : World} (h : LibJ w.heap.size w) (hb : Below w.heap.size w W) : LibJ W.heap.size W := (h.below hb).more hb.size
theorem LibJ.atP {w W : World} (h : LibJ w.heap.size w) (hb : Below w.heap.size w W) : LibP W.heap.size W := (h.at_ hb).p
theorem LibJ.atT {w W : World} (h : LibJ w.heap.size w) (hb : Below w.heap.size w W) : Tabs W := (h.atP hb).here
theorem zero_st_lit (W : World) : (zeroValue 26).run Tryd.prog W = .ok (.agg #[.int .i64 0, .slice none 0 0, .slice none 0 0, .slice none 0 0]) W := by kernel_rfl
theorem noSt_sz : StSz noSt := ⟨by simp [noSt], by simp [noSt], by simp [noSt], by simp [noSt], by simp [noSt], by simp [noSt]⟩
theorem noSt_check : checkE noSt = 0 := by decide +kernel
theorem parse_ps {s : St} (F : Fine s) (h : (printL s).length ≤ 60000) : parseE (printL s) = 0 ∧ parseS (printL s) = s := by
  obtain ⟨h1, h2⟩ := parse_print F h
  exact ⟨h1, by unfold parseS; rw [if_pos h1, h2]⟩
theorem parse_t0 {t : List UInt8} (h : parseE t = 0) : checkE (parseS t) = 0 ∧ printL (parseS t) = t := by
  obtain ⟨F, h1, _⟩ := parse_ok h
  have hs : parseS t = (readL t).1 := by unfold parseS; rw [if_pos h]
  rw [hs]
  exact ⟨(fine_iff _).2 F, h1⟩
theorem parse_t1 {t : List UInt8} (h : parseE t ≠ 0) : parseS t = noSt := by unfold parseS; rw [if_neg h]
/-- The text of a state that may be is read as that state. -/
theorem parse_of (s : St) (F : Fine s) (h : (printL s).length ≤ 60000) (w : World) (hJ : LibJ w.heap.size w) :
    Calls Tryd.prog 8 #[.string (bstr (printL s))] w fun e w' => ∃ p1 p2 p3 c1 c2 c3, e = .returned (.tuple #[.agg #[.int .i64 s.rev, .slice p1 s.jobs.length c1, .slice p2 s.nodes.length c2, .slice p3 s.leases.length c3], .int .i64 ((0 : Nat) : Int)]) ∧ StM w' w'.heap.size p1 p2 p3 s ∧ Below w.heap.size w w' := by
  have h0 := Parse_any (printL s) w hJ
  rw [(parse_ps F h).1, (parse_ps F h).2] at h0
  exact h0
theorem parse_str (b : ByteArray) (w : World) (hJ : LibJ w.heap.size w) :
    Calls Tryd.prog 8 #[.string b] w fun e w' => ∃ p1 p2 p3 c1 c2 c3, e = .returned (.tuple #[.agg #[.int .i64 (parseS b.data.toList).rev, .slice p1 (parseS b.data.toList).jobs.length c1, .slice p2 (parseS b.data.toList).nodes.length c2, .slice p3 (parseS b.data.toList).leases.length c3], .int .i64 (parseE b.data.toList : Int)]) ∧ StM w' w'.heap.size p1 p2 p3 (parseS b.data.toList) ∧ Below w.heap.size w w' := by
  have h0 := Parse_any b.data.toList w hJ
  rwa [bstr_self] at h0
end Go.Proofs.YtdicoepjkngikaaDoor
