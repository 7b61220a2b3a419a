/-
  Several texts in one: EncW, WireL, Wire3.
-/
import Derived.Test.YtdicoepjkngikaaGreatDoorPkPuts
import Derived.Test.YtdicoepjkngikaaGreatDoorPkWrite
import Derived.Test.YtdicoepjkngikaaGreatDoorPkFits
import Derived.Test.YtdicoepjkngikaaGreatDoorPkDec
/-
  The contract of wire.Encode.
-/
set_option linter.unusedVariables false
set_option linter.unusedSimpArgs false
namespace Go.Proofs.YtdicoepjkngikaaGreatDoor
open Go.RowKit
/-- What Encode answers. -/
def encR (v : Int) (s : St) : List UInt8 × Nat := if (fitsR s v).2 ≠ 0 then ([], (fitsR s v).2) else if (fitsR s v).1 = true then (encS v s, 0) else ([], 4)
theorem rowsB_len {α : Type} {enc : α → List UInt8} {l : List α} {m : Nat} (h : ∀ x ∈ l, (enc x).length ≤ m) (hl : l.length ≤ 40) : (rowsB enc l).length ≤ 10 + m * 40 := by
  have h1 := putN_len10 l.length (by omega)
  have h2 : (l.flatMap enc).length ≤ m * l.length := by
    clear hl h1
    induction l with
    | nil => simp
    | cons a r ih =>
      rw [List.flatMap_cons, List.length_append, List.length_cons, Nat.mul_succ]
      have := h a List.mem_cons_self
      have := ih fun x hx => h x (List.mem_cons_of_mem _ hx)
      omega
  have h3 : m * l.length ≤ m * 40 := Nat.mul_le_mul_left m hl
  unfold rowsB
  rw [List.length_append]
  omega
theorem fitsR_fine {s : St} {v : Int} (h0 : (fitsR s v).2 = 0) : checkE s = 0 ∧ 1 ≤ v ∧ v ≤ 3 ∧ fitsR s v = (fitsB s v, 0) := by
  unfold fitsR at h0 ⊢
  split at h0
  · rename_i h; exact absurd h0 h
  · rename_i h
    split at h0
    · rename_i h2
      have := withinB_iff.1 h2
      rw [if_neg h, if_pos h2]
      exact ⟨Classical.not_not.1 h, this.1, this.2, rfl⟩
    · cases h0
set_option maxHeartbeats 4000000 in
set_option maxRecDepth 100000 in
theorem encode_ok (s : St) (v : Int) (p1 p2 p3 : Option Addr) (c1 c2 c3 : Nat) (w : World) (hm : StM w w.heap.size p1 p2 p3 s) (hz : StSz s) (hT : Tabs w) (hF : Fine s) (hb : fitsB s v = true) (hv : 1 ≤ v ∧ v ≤ 3) (hr : fitsR s v = (true, 0)) :
    Calls Tryz.prog 7 #[.agg #[.int .i64 s.rev, .slice p1 s.jobs.length c1, .slice p2 s.nodes.length c2, .slice p3 s.leases.length c3], .int .i64 v] w fun e w' => e = .returned (.tuple #[.string (bstr (encS v s)), .int .i64 0]) ∧ Below w.heap.size w w' := by
  have hok := okSt_of v s hF hb hv
  have hk1 := hok.2.1
  have hk2 := hok.2.2.1
  have hk3 := hok.2.2.2
  have hrev := hok.1
  have hlj : (rowsB (encJ v) s.jobs).length ≤ 10 + 82 * 40 := rowsB_len (fun x hx => encJ_len (hk1.2 x hx)) hk1.1
  have hln : (rowsB (encN v) s.nodes).length ≤ 10 + 62 * 40 := rowsB_len (fun x hx => encN_len (hk2.2 x hx)) (Nat.le_trans hk2.1 (by decide))
  have hll : (rowsB encL s.leases).length ≤ 10 + 62 * 40 := rowsB_len (fun x hx => encL_len (hk3.2 x hx)) hk3.1
  have hb0 : Below w.heap.size w (w.alloc (.cells #[Value.int .i64 s.rev, Value.slice p1 s.jobs.length c1, Value.slice p2 s.nodes.length c2, Value.slice p3 s.leases.length c3] 26)) := (Below.refl _ _).alloc (Nat.le_refl _) _
  have bx0 := Blk.new w 26 #[Value.int .i64 s.rev, Value.slice p1 s.jobs.length c1, Value.slice p2 s.nodes.length c2, Value.slice p3 s.leases.length c3]
  have hs0 : (w.alloc (.cells #[Value.int .i64 s.rev, Value.slice p1 s.jobs.length c1, Value.slice p2 s.nodes.length c2, Value.slice p3 s.leases.length c3] 26)).heap.size = w.heap.size + 1 := by simp
  have hFt := fun (W : World) (hW : Below w.heap.size w W) => stFits_any s v p1 p2 p3 c1 c2 c3 W ((hm.below hW).more hW.size) hz (hT.below hW)
  rw [hr] at hFt
  have HF := Lib.hid hFt
  have HK1 := Lib.hid hk1
  have HK2 := Lib.hid hk2
  have HK3 := Lib.hid hk3
  have HREV := Lib.hid hrev
  have HM := Lib.hid hm
  have HT := Lib.hid hT
  have HLJ := Lib.hid hlj
  have HLN := Lib.hid hln
  have HLL := Lib.hid hll
  clear hFt hk1 hk2 hk3 hrev hok hm hT hF hb hr hz hlj hln hll
  go_enter Tryz.func7, Tryz.ntmps7
  go_wp2_with fail
  generalize w.alloc (.cells #[Value.int .i64 s.rev, Value.slice p1 s.jobs.length c1, Value.slice p2 s.nodes.length c2, Value.slice p3 s.leases.length c3] 26) = W0 at *
  have bv0 := Blk.new W0 3 #[Value.int .i64 v]
  have hb1 := hb0.alloc hb0.size (.cells #[Value.int .i64 v] 3)
  have bx1 := bx0.alloc (.cells #[Value.int .i64 v] 3)
  rw [hs0] at bv0
  generalize W0.alloc (.cells #[Value.int .i64 v] 3) = W1 at *
  refine (HF.out W1 hb1).mono ?_
  rintro e w2 ⟨rfl, hb2⟩
  have hB2 := hb1.trans (hb2.mono hb1.size)
  have bx2 := bx1.below hb2 bx1.lt
  have bv2 := bv0.below hb2 bv0.lt
  clear hb2 bx0 bx1 bv0 hb0 hb1 hs0 HF
  have ev : w2.cell? ⟨w.heap.size + 1, 0, none⟩ = some (.int .i64 v) := bv2.cell 0
  have bw := Blk.new w2 45 #[Value.slice none 0 0]
  have hB2a := hB2.alloc hB2.size (.cells #[Value.slice none 0 0] 45)
  have hsz2 := hB2.size
  have hs2 : (w2.alloc (.cells #[Value.slice none 0 0] 45)).heap.size = w2.heap.size + 1 := by simp
  have bx2a := bx2.alloc (.cells #[Value.slice none 0 0] 45)
  have bv2a := bv2.alloc (.cells #[Value.slice none 0 0] 45)
  have hlx := bx2.lt
  have hlv := bv2.lt
  have bp := Blk.new (w2.alloc (.cells #[Value.slice none 0 0] 45)) 42 #[Value.pointer (some ⟨w2.heap.size, 0, none⟩)]
  rw [hs2] at bp
  have hB3 := hB2a.alloc hB2a.size (.cells #[Value.pointer (some ⟨w2.heap.size, 0, none⟩)] 42)
  have bx3 := bx2a.alloc (.cells #[Value.pointer (some ⟨w2.heap.size, 0, none⟩)] 42)
  have bv3 := bv2a.alloc (.cells #[Value.pointer (some ⟨w2.heap.size, 0, none⟩)] 42)
  have bw3 := bw.alloc (.cells #[Value.pointer (some ⟨w2.heap.size, 0, none⟩)] 42)
  have hW3 : Wr ((w2.alloc (.cells #[Value.slice none 0 0] 45)).alloc (.cells #[Value.pointer (some ⟨w2.heap.size, 0, none⟩)] 42)) w2.heap.size [] := ⟨_, bw3, Buf.nil _ _ _⟩
  have n1 : w.heap.size ≠ w2.heap.size := by omega
  have n2 : w.heap.size + 1 ≠ w2.heap.size := by omega
  have n3 : w2.heap.size + 1 ≠ w2.heap.size := by omega
  have HW2 : Hid (Below w.heap.size w w2) := Lib.hid hB2
  clear bx2 bv2 bw bx2a bv2a hB2a hs2 hB2 bw3
  have hpre : (decide (2 < v) = true → okNb s.rev) := fun h => by have := HREV.out; rw [if_pos h] at this; exact this
  have HP := Lib.hid hpre
  clear hpre
  by_cases h2 : 2 < v
  · have h2d : decide (2 < v) = true := decide_eq_true h2
    have hrv := HP.out h2d
    have HE : Hid (encS v s = (putN s.rev.toNat) ++ (rowsB (encJ v) s.jobs ++ (rowsB (encN v) s.nodes ++ rowsB encL s.leases))) := Lib.hid (by unfold encS; rw [if_pos h2d])
    have hl0 := putN_len10 s.rev.toNat (by have := hrv.2; omega)
    have HRV := Lib.hid hrv
    clear h2d hrv
    have ex : ((w2.alloc (.cells #[Value.slice none 0 0] 45)).alloc (.cells #[Value.pointer (some ⟨w2.heap.size, 0, none⟩)] 42)).cell? ⟨w.heap.size, 0, none⟩ = some (.int .i64 s.rev) := bx3.cell 0
    have ev3 : ((w2.alloc (.cells #[Value.slice none 0 0] 45)).alloc (.cells #[Value.pointer (some ⟨w2.heap.size, 0, none⟩)] 42)).cell? ⟨w.heap.size + 1, 0, none⟩ = some (.int .i64 v) := bv3.cell 0
    go_wp2_with fail
    generalize (w2.alloc (.cells #[Value.slice none 0 0] 45)).alloc (.cells #[Value.pointer (some ⟨w2.heap.size, 0, none⟩)] 42) = w3 at *
    refine (wNumber_keep w2.heap.size [] s.rev w3 hW3 HRV.out (by simp)).mono ?_
    rintro e w4 ⟨rfl, h4, B4, K4⟩
    clear hW3 ex ev3
    rw [List.nil_append] at h4
    generalize putN s.rev.toNat = cur at *
    have bx4 := K4 _ _ _ (by decide) n1 bx3
    have bv4 := K4 _ _ _ (by decide) n2 bv3
    have bp4 := K4 _ _ _ (by decide) n3 bp
    have hB4 := hB3.trans (B4.mono hsz2)
    clear hB3 bx3 bv3 bp B4 K4
    have e1 : w4.cell? ⟨w.heap.size, 1, none⟩ = some (.slice p1 s.jobs.length c1) := bx4.cell 1
    have ep : w4.cell? ⟨w2.heap.size + 1, 0, none⟩ = some (.pointer (some ⟨w2.heap.size, 0, none⟩)) := bp4.cell 0
    go_wp2_with fail
    refine (putJ_any _ _ (w2.heap.size + 1) (w.heap.size + 1) v w2.heap.size cur p1 c1 s.jobs w4 bp4 bv4 ⟨by decide, n3⟩ ⟨by decide, n2⟩ h4 ((HM.out.j.below hB4).more hsz2) HK1.out.2 HK1.out.1 (by omega) (fun w' hb => HT.out.below (hB4.trans (hb.mono hsz2)))).mono ?_
    rintro e w5 ⟨rfl, h5, B5, K5⟩
    have bx5 := K5 _ _ _ (by decide) n1 bx4
    have bv5 := K5 _ _ _ (by decide) n2 bv4
    have bp5 := K5 _ _ _ (by decide) n3 bp4
    have hB5 := hB4.trans (B5.mono hsz2)
    have hl5 := HLJ.out
    clear hB4 bx4 bv4 bp4 B5 K5 e1 ep h4
    have e2 : w5.cell? ⟨w.heap.size, 2, none⟩ = some (.slice p2 s.nodes.length c2) := bx5.cell 2
    have ep : w5.cell? ⟨w2.heap.size + 1, 0, none⟩ = some (.pointer (some ⟨w2.heap.size, 0, none⟩)) := bp5.cell 0
    go_wp2_with fail
    refine (putN_any _ _ (w2.heap.size + 1) (w.heap.size + 1) v w2.heap.size _ p2 c2 s.nodes w5 bp5 bv5 ⟨by decide, n3⟩ ⟨by decide, n2⟩ h5 ((HM.out.n.below hB5).more hsz2) HK2.out.2 (Nat.le_trans HK2.out.1 (by decide)) (by rw [List.length_append]; omega) (fun w' hb => HT.out.below (hB5.trans (hb.mono hsz2)))).mono ?_
    rintro e w6 ⟨rfl, h6, B6, K6⟩
    have bx6 := K6 _ _ _ (by decide) n1 bx5
    have bp6 := K6 _ _ _ (by decide) n3 bp5
    have hB6 := hB5.trans (B6.mono hsz2)
    have hl6 := HLN.out
    clear hB5 bx5 bv5 bp5 B6 K6 e2 ep h5
    have e3 : w6.cell? ⟨w.heap.size, 3, none⟩ = some (.slice p3 s.leases.length c3) := bx6.cell 3
    have ep : w6.cell? ⟨w2.heap.size + 1, 0, none⟩ = some (.pointer (some ⟨w2.heap.size, 0, none⟩)) := bp6.cell 0
    go_wp2_with fail
    refine (putL_any w2.heap.size _ p3 c3 s.leases w6 h6 ((HM.out.l.below hB6).more hsz2) HK3.out.2 HK3.out.1 (by rw [List.length_append, List.length_append]; omega) (fun w' hb => HT.out.below (hB6.trans (hb.mono hsz2)))).mono ?_
    rintro e w7 ⟨rfl, h7, B7, K7⟩
    have bp7 := K7 _ _ _ (by decide) n3 bp6
    have hB7 := hB6.trans (B7.mono hsz2)
    clear hB6 bx6 bp6 B7 K7 e3 ep h6
    have ep : w7.cell? ⟨w2.heap.size + 1, 0, none⟩ = some (.pointer (some ⟨w2.heap.size, 0, none⟩)) := bp7.cell 0
    rw [List.append_assoc, List.append_assoc, ← HE.out] at h7
    obtain ⟨vv, bw7, hv7⟩ := h7
    obtain ⟨pa, ca, rfl⟩ := hv7.form
    have ew : w7.cell? ⟨w2.heap.size, 0, none⟩ = some (.slice pa (encS v s).length ca) := bw7.cell 0
    have hcv := buf_string (P := Tryz.prog) (U := 5) (src := 43) (dst := 9) Tryz.underlying43 Tryz.underlying5 Tryz.underlying9 hv7
    generalize hout : encS v s = out at *
    have HO := Lib.hid hout
    have HB := Lib.hid hB7
    clear hB7 bw7 hv7 HE hout
    go_wp2_with fail
    go_ret2
    exact ⟨by rw [HO.out]; rfl, HB.out⟩
  · have h2d : decide (2 < v) = false := decide_eq_false h2
    have HE : Hid (encS v s = [] ++ (rowsB (encJ v) s.jobs ++ (rowsB (encN v) s.nodes ++ rowsB encL s.leases))) := Lib.hid (by unfold encS; rw [if_neg (by rw [h2d]; simp)])
    have hl0 : ([] : List UInt8).length ≤ 10 := by decide
    have ev3 : ((w2.alloc (.cells #[Value.slice none 0 0] 45)).alloc (.cells #[Value.pointer (some ⟨w2.heap.size, 0, none⟩)] 42)).cell? ⟨w.heap.size + 1, 0, none⟩ = some (.int .i64 v) := bv3.cell 0
    have e1 : ((w2.alloc (.cells #[Value.slice none 0 0] 45)).alloc (.cells #[Value.pointer (some ⟨w2.heap.size, 0, none⟩)] 42)).cell? ⟨w.heap.size, 1, none⟩ = some (.slice p1 s.jobs.length c1) := bx3.cell 1
    generalize ([] : List UInt8) = cur at *
    go_wp2_with fail
    generalize ((w2.alloc (.cells #[Value.slice none 0 0] 45)).alloc (.cells #[Value.pointer (some ⟨w2.heap.size, 0, none⟩)] 42)) = w4 at *
    have h4 := hW3
    have bx4 := bx3
    have bv4 := bv3
    have bp4 := bp
    have hB4 := hB3
    clear hW3 bx3 bv3 bp hB3 ev3
    have ep : w4.cell? ⟨w2.heap.size + 1, 0, none⟩ = some (.pointer (some ⟨w2.heap.size, 0, none⟩)) := bp4.cell 0
    refine (putJ_any _ _ (w2.heap.size + 1) (w.heap.size + 1) v w2.heap.size cur p1 c1 s.jobs w4 bp4 bv4 ⟨by decide, n3⟩ ⟨by decide, n2⟩ h4 ((HM.out.j.below hB4).more hsz2) HK1.out.2 HK1.out.1 (by omega) (fun w' hb => HT.out.below (hB4.trans (hb.mono hsz2)))).mono ?_
    rintro e w5 ⟨rfl, h5, B5, K5⟩
    have bx5 := K5 _ _ _ (by decide) n1 bx4
    have bv5 := K5 _ _ _ (by decide) n2 bv4
    have bp5 := K5 _ _ _ (by decide) n3 bp4
    have hB5 := hB4.trans (B5.mono hsz2)
    have hl5 := HLJ.out
    clear hB4 bx4 bv4 bp4 B5 K5 e1 ep h4
    have e2 : w5.cell? ⟨w.heap.size, 2, none⟩ = some (.slice p2 s.nodes.length c2) := bx5.cell 2
    have ep : w5.cell? ⟨w2.heap.size + 1, 0, none⟩ = some (.pointer (some ⟨w2.heap.size, 0, none⟩)) := bp5.cell 0
    go_wp2_with fail
    refine (putN_any _ _ (w2.heap.size + 1) (w.heap.size + 1) v w2.heap.size _ p2 c2 s.nodes w5 bp5 bv5 ⟨by decide, n3⟩ ⟨by decide, n2⟩ h5 ((HM.out.n.below hB5).more hsz2) HK2.out.2 (Nat.le_trans HK2.out.1 (by decide)) (by rw [List.length_append]; omega) (fun w' hb => HT.out.below (hB5.trans (hb.mono hsz2)))).mono ?_
    rintro e w6 ⟨rfl, h6, B6, K6⟩
    have bx6 := K6 _ _ _ (by decide) n1 bx5
    have bp6 := K6 _ _ _ (by decide) n3 bp5
    have hB6 := hB5.trans (B6.mono hsz2)
    have hl6 := HLN.out
    clear hB5 bx5 bv5 bp5 B6 K6 e2 ep h5
    have e3 : w6.cell? ⟨w.heap.size, 3, none⟩ = some (.slice p3 s.leases.length c3) := bx6.cell 3
    have ep : w6.cell? ⟨w2.heap.size + 1, 0, none⟩ = some (.pointer (some ⟨w2.heap.size, 0, none⟩)) := bp6.cell 0
    go_wp2_with fail
    refine (putL_any w2.heap.size _ p3 c3 s.leases w6 h6 ((HM.out.l.below hB6).more hsz2) HK3.out.2 HK3.out.1 (by rw [List.length_append, List.length_append]; omega) (fun w' hb => HT.out.below (hB6.trans (hb.mono hsz2)))).mono ?_
    rintro e w7 ⟨rfl, h7, B7, K7⟩
    have bp7 := K7 _ _ _ (by decide) n3 bp6
    have hB7 := hB6.trans (B7.mono hsz2)
    clear hB6 bx6 bp6 B7 K7 e3 ep h6
    have ep : w7.cell? ⟨w2.heap.size + 1, 0, none⟩ = some (.pointer (some ⟨w2.heap.size, 0, none⟩)) := bp7.cell 0
    rw [List.append_assoc, List.append_assoc, ← HE.out] at h7
    obtain ⟨vv, bw7, hv7⟩ := h7
    obtain ⟨pa, ca, rfl⟩ := hv7.form
    have ew : w7.cell? ⟨w2.heap.size, 0, none⟩ = some (.slice pa (encS v s).length ca) := bw7.cell 0
    have hcv := buf_string (P := Tryz.prog) (U := 5) (src := 43) (dst := 9) Tryz.underlying43 Tryz.underlying5 Tryz.underlying9 hv7
    generalize hout : encS v s = out at *
    have HO := Lib.hid hout
    have HB := Lib.hid hB7
    clear hB7 bw7 hv7 HE hout
    go_wp2_with fail
    go_ret2
    exact ⟨by rw [HO.out]; rfl, HB.out⟩
set_option maxHeartbeats 4000000 in
set_option maxRecDepth 100000 in
theorem encode_state (s : St) (v : Int) (p1 p2 p3 : Option Addr) (c1 c2 c3 : Nat) (w : World) (hm : StM w w.heap.size p1 p2 p3 s) (hz : StSz s) (hT : Tabs w) :
    Calls Tryz.prog 7 #[.agg #[.int .i64 s.rev, .slice p1 s.jobs.length c1, .slice p2 s.nodes.length c2, .slice p3 s.leases.length c3], .int .i64 v] w fun e w' => e = .returned (.tuple #[.string (bstr (encR v s).1), .int .i64 ((encR v s).2 : Int)]) ∧ Below w.heap.size w w' := by
  by_cases h0 : (fitsR s v).2 = 0
  · obtain ⟨h1, h2, h3, h4⟩ := fitsR_fine h0
    cases hb : fitsB s v
    · have hR : encR v s = ([], 4) := by unfold encR; rw [if_neg (by rw [h0]; simp), h4, hb]; rfl
      have hb0 : Below w.heap.size w (w.alloc (.cells #[Value.int .i64 s.rev, Value.slice p1 s.jobs.length c1, Value.slice p2 s.nodes.length c2, Value.slice p3 s.leases.length c3] 26)) := (Below.refl _ _).alloc (Nat.le_refl _) _
      have bx0 := Blk.new w 26 #[Value.int .i64 s.rev, Value.slice p1 s.jobs.length c1, Value.slice p2 s.nodes.length c2, Value.slice p3 s.leases.length c3]
      have hFt := fun (W : World) (hW : Below w.heap.size w W) => stFits_any s v p1 p2 p3 c1 c2 c3 W ((hm.below hW).more hW.size) hz (hT.below hW)
      rw [h4, hb] at hFt
      have HF := Lib.hid hFt
      have HR := Lib.hid hR
      clear hFt hR h0 h4 hb h1 hm hT hz
      go_enter Tryz.func7, Tryz.ntmps7
      go_wp2_with fail
      have hb1 := hb0.alloc hb0.size (.cells #[Value.int .i64 v] 3)
      generalize (w.alloc (.cells #[Value.int .i64 s.rev, Value.slice p1 s.jobs.length c1, Value.slice p2 s.nodes.length c2, Value.slice p3 s.leases.length c3] 26)).alloc (.cells #[Value.int .i64 v] 3) = W1 at *
      refine (HF.out W1 hb1).mono ?_
      rintro e w2 ⟨rfl, hb2⟩
      go_wp2_with fail
      go_ret2
      exact ⟨by rw [HR.out]; rfl, hb1.trans (hb2.mono hb1.size)⟩
    · have hr : fitsR s v = (true, 0) := by rw [h4, hb]
      have hR : encR v s = (encS v s, 0) := by unfold encR; rw [if_neg (by rw [h0]; simp), hr, if_pos rfl]
      rw [hR]
      exact encode_ok s v p1 p2 p3 c1 c2 c3 w hm hz hT ((fine_iff s).1 h1) hb ⟨h2, h3⟩ hr
  · have hR : encR v s = ([], (fitsR s v).2) := by unfold encR; rw [if_pos h0]
    have hb0 : Below w.heap.size w (w.alloc (.cells #[Value.int .i64 s.rev, Value.slice p1 s.jobs.length c1, Value.slice p2 s.nodes.length c2, Value.slice p3 s.leases.length c3] 26)) := (Below.refl _ _).alloc (Nat.le_refl _) _
    have bx0 := Blk.new w 26 #[Value.int .i64 s.rev, Value.slice p1 s.jobs.length c1, Value.slice p2 s.nodes.length c2, Value.slice p3 s.leases.length c3]
    have hFt := fun (W : World) (hW : Below w.heap.size w W) => stFits_any s v p1 p2 p3 c1 c2 c3 W ((hm.below hW).more hW.size) hz (hT.below hW)
    have hne : (((fitsR s v).2 : Int) != 0) = true := by rw [bne_iff_ne]; omega
    have HF := Lib.hid hFt
    have HR := Lib.hid hR
    generalize (fitsR s v).2 = er at *
    clear hFt hR h0 hm hT hz
    go_enter Tryz.func7, Tryz.ntmps7
    go_wp2_with fail
    have hb1 := hb0.alloc hb0.size (.cells #[Value.int .i64 v] 3)
    generalize (w.alloc (.cells #[Value.int .i64 s.rev, Value.slice p1 s.jobs.length c1, Value.slice p2 s.nodes.length c2, Value.slice p3 s.leases.length c3] 26)).alloc (.cells #[Value.int .i64 v] 3) = W1 at *
    refine (HF.out W1 hb1).mono ?_
    rintro e w2 ⟨rfl, hb2⟩
    go_wp2_with fail
    go_ret2
    exact ⟨by rw [HR.out]; rfl, hb1.trans (hb2.mono hb1.size)⟩
end Go.Proofs.YtdicoepjkngikaaGreatDoor

/-
  Plain laws of the wire: what Encode and Decode answer of each other.
-/
set_option linter.unusedVariables false
set_option linter.unusedSimpArgs false
namespace Go.Proofs.YtdicoepjkngikaaGreatDoor
theorem encR_of {v : Int} {s : St} (h : okSt v s) (hc : checkE s = 0) (hv : 1 ≤ v ∧ v ≤ 3) : encR v s = (encS v s, 0) := by
  have hf := fits_of v s h hv
  have hr : fitsR s v = (true, 0) := by unfold fitsR; rw [if_neg (by rw [hc]; simp), if_pos (withinB_iff.2 hv), hf]
  unfold encR
  rw [hr, if_neg (by simp), if_pos rfl]
theorem encR_ok {v : Int} {s : St} (h : (encR v s).2 = 0) : encR v s = (encS v s, 0) ∧ okSt v s ∧ checkE s = 0 ∧ 1 ≤ v ∧ v ≤ 3 := by
  unfold encR at h ⊢
  by_cases h0 : (fitsR s v).2 = 0
  · obtain ⟨h1, h2, h3, h4⟩ := fitsR_fine h0
    rw [if_neg (by rw [h0]; simp)] at h ⊢
    by_cases hb : (fitsR s v).1 = true
    · rw [if_pos hb]
      have hfb : fitsB s v = true := by rw [h4] at hb; exact hb
      exact ⟨rfl, okSt_of v s ((fine_iff s).1 h1) hfb ⟨h2, h3⟩, h1, h2, h3⟩
    · rw [if_neg hb] at h; cases h
  · rw [if_pos h0] at h; exact absurd h h0
theorem encR_bad {v : Int} {s : St} (h : (encR v s).2 ≠ 0) : (encR v s).1 = [] := by
  unfold encR at h ⊢
  split
  · rfl
  · split
    · rename_i h1 h2; rw [if_neg h1, if_pos h2] at h; exact absurd rfl h
    · rfl
theorem decT_enc {v : Int} {s : St} (h : okSt v s) (hc : checkE s = 0) (hv : 1 ≤ v ∧ v ≤ 3) : decT v (encS v s) = (s, 0) := by
  unfold decT
  rw [if_neg (by omega), decS_enc v s h hc]
theorem decS_err {v : Int} {l : List UInt8} {e : Nat} (h : decS v l = .bad e) : e ≠ 0 := by
  unfold decS at h
  cases hp : pState v l with
  | bad z => rw [hp] at h; injection h with h; subst h; exact (pState_PP v).err _ _ hp
  | ok t r =>
    rw [hp] at h
    change (if _ then _ else if _ then _ else _) = _ at h
    split at h
    · injection h with h; omega
    · split at h
      · rename_i h1; injection h with h; subst h; exact h1
      · cases h
theorem decT_ok {v : Int} {l : List UInt8} (h : (decT v l).2 = 0) : okSt v (decT v l).1 ∧ checkE (decT v l).1 = 0 ∧ l = encS v (decT v l).1 ∧ 1 ≤ v ∧ v ≤ 3 := by
  unfold decT at h ⊢
  by_cases hv : v < 1 ∨ 3 < v
  · rw [if_pos hv] at h; cases h
  · rw [if_neg hv] at h ⊢
    cases hd : decS v l with
    | bad e => rw [hd] at h; exact absurd h (decS_err hd)
    | ok s =>
      simp only []
      obtain ⟨h1, h2, h3⟩ := decS_inv v l s hd
      exact ⟨h1, h2, h3, by omega, by omega⟩
theorem decT_bad {v : Int} {l : List UInt8} (h : (decT v l).2 ≠ 0) : (decT v l).1 = zeroSt := by
  unfold decT at h ⊢
  by_cases hv : v < 1 ∨ 3 < v
  · rw [if_pos hv]
  · rw [if_neg hv] at h ⊢
    cases hd : decS v l with
    | bad e => rfl
    | ok s => rw [hd] at h; exact absurd rfl h
theorem zeroSt_sz : StSz zeroSt := ⟨by simp [zeroSt], by simp [zeroSt], by simp [zeroSt], by decide, by decide, by decide⟩
theorem decT_sz {v : Int} {l : List UInt8} : StSz (decT v l).1 := by
  by_cases h : (decT v l).2 = 0
  · exact okSt_sz (decT_ok h).1
  · rw [decT_bad h]; exact zeroSt_sz
theorem decT_again {v : Int} {l : List UInt8} (h : (decT v l).2 = 0) : encR v (decT v l).1 = (l, 0) := by
  obtain ⟨h1, h2, h3, hv⟩ := decT_ok h
  rw [encR_of h1 h2 hv, ← h3]
theorem decT_cut {v : Int} {s : St} (h : okSt v s) (hv : 1 ≤ v ∧ v ≤ 3) (k : Nat) (hk : k < (encS v s).length) : decT v ((encS v s).take k) = (zeroSt, 3) := by
  unfold decT
  rw [if_neg (by omega), decS_cut v s k h hk]
theorem decT_more {v : Int} {s : St} (h : okSt v s) (hv : 1 ≤ v ∧ v ≤ 3) (more : List UInt8) (hm : more ≠ []) : decT v (encS v s ++ more) = (zeroSt, 4) := by
  unfold decT
  rw [if_neg (by omega), decS_more v s more h hm]
theorem encS_len {v : Int} {s : St} (h : okSt v s) : (encS v s).length ≤ 10000 := by
  have h0 : (if decide (2 < v) = true then putN s.rev.toNat else []).length ≤ 10 := by
    have := h.1
    split
    · rename_i h2; rw [if_pos h2] at this; exact putN_len10 _ (by have := this.2; omega)
    · simp
  have h1 : (rowsB (encJ v) s.jobs).length ≤ 10 + 82 * 40 := rowsB_len (fun x hx => encJ_len (h.2.1.2 x hx)) h.2.1.1
  have h2 : (rowsB (encN v) s.nodes).length ≤ 10 + 62 * 40 := rowsB_len (fun x hx => encN_len (h.2.2.1.2 x hx)) (Nat.le_trans h.2.2.1.1 (by decide))
  have h3 : (rowsB encL s.leases).length ≤ 10 + 62 * 40 := rowsB_len (fun x hx => encL_len (h.2.2.2.2 x hx)) h.2.2.2.1
  unfold encS
  rw [List.length_append, List.length_append, List.length_append]
  omega
theorem putN_pos1 (n : Nat) : 1 ≤ (putN n).length := by have := putN_pos n; omega
theorem encS_pos (v : Int) (s : St) : 3 ≤ (encS v s).length := by
  have h1 := putN_pos1 s.jobs.length
  have h2 := putN_pos1 s.nodes.length
  have h3 := putN_pos1 s.leases.length
  unfold encS rowsB
  simp only [List.length_append]
  omega
theorem bnil_empty : (bstr []).toList.isEmpty = true := by rw [bstr_toList]; rfl
end Go.Proofs.YtdicoepjkngikaaGreatDoor

/-
 Plain: version 3 of the wire has room for every state that may be.
-/
set_option linter.unusedVariables false
set_option linter.unusedSimpArgs false
namespace Go.Proofs.YtdicoepjkngikaaGreatDoor
theorem fits3 (s : St) : fitsB s 3 = true := by
  unfold fitsB
  simp [fitR, fitJ, fitN]
theorem okSt3 {s : St} (h : checkE s = 0) : okSt 3 s := okSt_of 3 s ((fine_iff s).1 h) (fits3 s) ⟨by decide, by decide⟩
theorem encR_three {s : St} (h : checkE s = 0) : encR 3 s = (encS 3 s, 0) := encR_of (okSt3 h) h ⟨by decide, by decide⟩
theorem decT_enc3 {s : St} (h : checkE s = 0) : decT 3 (encS 3 s) = (s, 0) := decT_enc (okSt3 h) h ⟨by decide, by decide⟩
theorem encS_len3 {s : St} (h : checkE s = 0) : (encS 3 s).length ≤ 10000 := encS_len (okSt3 h)
theorem encR_check {s : St} (h : checkE s ≠ 0) : (encR 3 s).2 = checkE s := by
  have hr : fitsR s 3 = (false, checkE s) := by unfold fitsR; rw [if_pos h]
  unfold encR
  rw [hr, if_pos h]
end Go.Proofs.YtdicoepjkngikaaGreatDoor
