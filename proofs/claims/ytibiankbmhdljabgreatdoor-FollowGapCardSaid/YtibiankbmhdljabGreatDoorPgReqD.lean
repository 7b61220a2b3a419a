/-
  Several texts in one: ReqD.
-/
import Derived.Test.YtibiankbmhdljabGreatDoorPgReqE
import Derived.Test.YtibiankbmhdljabGreatDoorPgReply
set_option linter.all false
set_option maxHeartbeats 16000000
set_option maxRecDepth 100000
namespace Go.Proofs.YtibiankbmhdljabGreatDoor
open Go.Proofs.Tryz
open Go.RowKit
def uj1 (w : World) (r : ReqD × Nat) (e : Ending) (w' : World) : Prop := e = .returned (.tuple #[.agg #[.int .i64 r.1.kind, .string r.1.job.name, .int .i64 r.1.job.prio, .int .i64 r.1.job.need, .int .i64 r.1.job.tries, .string r.1.job.tag, .string r.1.node.name, .int .i64 r.1.node.room, .string r.1.node.zone, .string r.1.lease.job, .string r.1.lease.node, .int .i64 r.1.lease.till, .string r.1.name, .int .i64 r.1.n], .int .i64 (r.2 : Int)]) ∧ Below w.heap.size w w'
theorem uxn {w w' : World} {r : ReqD × Nat} {er : Nat} (hr : r = (noQ, er)) (hb : Below w.heap.size w w') : uj1 w r (.returned (.tuple #[.agg (kqv 0), .int .i64 (er : Int)])) w' := by subst hr; exact ⟨rfl, hb⟩
theorem uwi {α : Type} {p : List UInt8 -> Res α} (f : α -> ReqD) {r l2 : List UInt8} {x : α} {y2 : Nat} (hpp : ∀ l e, p l = .bad e -> e ≠ 0) (S : Step p r 0 x l2 y2) :
  (endE y2 l2 ≠ 0 -> finQ (pMap f p r) = (noQ, endE y2 l2)) ∧ (endE y2 l2 = 0 -> finQ (pMap f p r) = (if reqE (f x) ≠ 0 then (noQ, reqE (f x)) else (f x, 0)) ∧ p r = .ok x []) := by
 obtain ⟨_, _, h3⟩ := S
 obtain ⟨h4, h5⟩ := h3 rfl
 unfold pMap
 cases hp : p r with
 | bad e =>
  obtain rfl := h5 e hp
  have hy := hpp _ _ hp
  have he : endE y2 l2 = y2 := by unfold endE; rw [if_pos hy]
  rw [he]
  exact ⟨fun _ => rfl, fun h => absurd h hy⟩
 | ok b r' =>
  obtain ⟨rfl, rfl, rfl⟩ := h4 b r' hp
  have he : endE 0 l2 = if l2 = [] then 0 else 4 := by unfold endE; rw [if_neg (by simp)]
  rw [he]
  show (_ -> finQ (.ok (f x) l2) = _) ∧ (_ -> finQ (.ok (f x) l2) = _ ∧ _)
  by_cases hl : l2 = []
  ·subst hl
   refine ⟨fun h => absurd rfl h, fun _ => ⟨?_, rfl⟩⟩
   unfold finQ
   simp only []
   rw [if_neg (by simp)]
  ·rw [if_neg hl]
   refine ⟨fun _ => ?_, fun h => by cases h⟩
   unfold finQ
   simp only []
   rw [if_pos hl]
theorem szE : ByteArray.empty.size <= 9223372036854775807 := by decide
theorem pPart_Z (k : Int) (h : k = 8 ∨ k = 9) (l : List UInt8) : pPart k l = pMap (fun _ => ⟨k, noJ, noN, noL, ByteArray.empty, 0⟩) (pUnit ()) l := by
 unfold pPart; rw [if_neg (by omega), if_neg (by omega), if_neg (by omega), if_neg (by omega), if_neg (by omega)]; rfl
theorem rtakeZ (v : Value) (w : World) : Calls prog 330 #[.agg #[], v] w fun e w' => e = .returned (.tuple #[]) ∧ Below w.heap.size w w' := by
 go_enter func330, ntmps330
 go_wp2_with fail
 go_end0
 exact ⟨rfl, (zri _ _).alloc (zra _) _⟩
theorem xz0 (b : ByteArray) (k : Int) (r : List UInt8) (hp : pInt b.data.toList = .ok k r) (hkind : k = 8 ∨ k = 9) (w : World) (hb : b.size <= 4611686018427387904) (hT : Tabs w) :
  Calls prog 98 #[.string b] w fun e w' => uj1 w (finQ (pPart k r)) e w' := by
 have hzd := uq6
 obtain ⟨l, rfl⟩ : ∃ l, b = bstr l := ⟨b.data.toList, (uxp b).symm⟩
 rw [uqw] at hb
 rw [uqt] at *
 rw [pPart_Z k hkind]
 have s1 : (w.alloc (.cells (kqv 0) 68)).heap.size = w.heap.size + 1 := by simp
 have br3 : Blk ((w.alloc (.cells (kqv 0) 68)).alloc (.cells #[.string (bstr l), .int .i64 0] 185)) w.heap.size 68 (kqv 0) := (Blk.new w 68 (kqv 0)).alloc _
 have rd3 : Rd ((w.alloc (.cells (kqv 0) 68)).alloc (.cells #[.string (bstr l), .int .i64 0] 185)) (w.heap.size + 1) l 0 := by have h := Blk.new (w.alloc (.cells (kqv 0) 68)) 185 #[.string (bstr l), .int .i64 0]; rw [s1] at h; exact h
 have hB3 : Below w.heap.size w ((w.alloc (.cells (kqv 0) 68)).alloc (.cells #[.string (bstr l), .int .i64 0] 185)) := ((zri _ _).alloc (zra _) _).alloc (by rw [s1]; omega) _
 have HT := zrj hT
 clear s1 hT
 go_enter func98, ntmps98
 go_wp2_with fail
 generalize (w.alloc (.cells (kqv 0) 68)).alloc (.cells #[.string (bstr l), .int .i64 0] 185) = W3 at *
 refine (uxb (w.heap.size + 1) 0 l W3 rd3).mono ?_
 rintro e w4 ⟨G4, n, l1, y1, rfl, R4, S4, _, _, _⟩
 have br4 := br3.gr_ G4 (by omega)
 have hB4 : Below w.heap.size w w4 := hB3.grown G4 (by have := rd3.lt; omega) (fun k hk => by injection hk with hk; omega)
 obtain ⟨rfl, rfl, rfl⟩ := (S4.2.2 rfl).1 _ _ hp
 have hl1 : l1.length <= l.length := S4.1
 have c1 : w4.cell? ⟨w.heap.size + 1, 1, none⟩ = some (.int .i64 0) := R4.cell 1
 have HK := zrj hkind
 clear S4 G4 br3 rd3 hB3 hp hkind
 go_wp2_with fail
 refine (xzk ⟨(n : Int), noJ, noN, noL, ByteArray.empty, 0⟩ HK.out w4).mono ?_
 rintro e w5 ⟨rfl, hb5⟩
 have br5 := br4.below hb5 br4.lt
 have hr4 := R4.lt
 have rd5 : Rd w5 (w.heap.size + 1) l1 0 := Blk.below R4 hb5 R4.lt
 have hB5 := hB4.trans (hb5.mono hB4.size)
 clear hb5 hB4 br4 R4 c1
 go_wp2_with fail
 refine (rtakeZ _ w5).mono ?_
 rintro e w6 ⟨rfl, hb6⟩
 have br6 := br5.below hb6 br5.lt
 have rd6 : Rd w6 (w.heap.size + 1) l1 0 := Blk.below rd5 hb6 rd5.lt
 have hB6 := hB5.trans (hb6.mono hB5.size)
 have HF := zrj (uwi (fun _ => ⟨(n : Int), noJ, noN, noL, ByteArray.empty, 0⟩) (PP.unit ()).err (Step.unit () l1 0))
 clear hb6 hB5 br5 rd5
 go_wp2_with fail
 refine (uva (w.heap.size + 1) 0 l1 w6 rd6).mono ?_
 rintro e w7 ⟨G7, rfl⟩
 have br7 := br6.gr_ G7 (by omega)
 have hB7 : Below w.heap.size w w7 := hB6.grown G7 (by have := br6.lt; omega) (fun k hk => by injection hk with hk; omega)
 clear G7 br6 rd6 hB6
 by_cases he : endE 0 l1 = 0
 rotate_left
 ·have hne : ((endE 0 l1 : Int) != 0) = true := by rw [bne_iff_ne]; omega
  have HR := zrj (HF.out.1 he)
  generalize endE 0 l1 = er at *
  clear he HF
  go_wp2_with (first | (refine uqc rfl _ _ _ rfl w.heap.size rfl _ _ (kqv 0) br7 rfl uqe rfl (by simp [Value.oneCell']) ?_))
  refine bodyPost_ret (uqi rfl _ rfl (br7.setRow (kqv 0)) underlying68 rfl uqe) rfl ?_
  exact uxn HR.out (uqh hB7 (zra _) _)
 obtain ⟨hr, hx⟩ := HF.out.2 he
 rw [he]
 have HRr := zrj hr
 have HSz := zrj (show ReqSz ⟨(n : Int), noJ, noN, noL, ByteArray.empty, 0⟩ from ⟨szE, szE, szE, szE, szE, szE, szE⟩)
 clear HF he hr hx
 go_wp2_with fail
 refine (wholeZ (n : Int) w7).mono ?_
 rintro e w8 ⟨rfl, hb8⟩
 have br8 := br7.below hb8 br7.lt
 have hB8 := hB7.trans (hb8.mono hB7.size)
 have bq9 := Blk.new w8 68 (kqv (n : Int))
 have br9 := br8.alloc (.cells (kqv (n : Int)) 68)
 have hB9 := hB8.alloc hB8.size (.cells (kqv (n : Int)) 68)
 have n9 : w.heap.size ≠ w8.heap.size := by have := br8.lt; omega
 have HCk := zrj (fun (W : World) (hW : Tabs W) => uja ⟨(n : Int), noJ, noN, noL, ByteArray.empty, 0⟩ W HSz.out hW)
 have hqq : (fun r : ReqD × Nat => r = (if reqE ⟨(n : Int), noJ, noN, noL, ByteArray.empty, 0⟩ ≠ 0 then (noQ, reqE ⟨(n : Int), noJ, noN, noL, ByteArray.empty, 0⟩) else (⟨(n : Int), noJ, noN, noL, ByteArray.empty, 0⟩, 0))) (if reqE ⟨(n : Int), noJ, noN, noL, ByteArray.empty, 0⟩ ≠ 0 then (noQ, reqE ⟨(n : Int), noJ, noN, noL, ByteArray.empty, 0⟩) else (⟨(n : Int), noJ, noN, noL, ByteArray.empty, 0⟩, 0)) := rfl
 clear hqq
 generalize hre : reqE ⟨(n : Int), noJ, noN, noL, ByteArray.empty, 0⟩ = er at *
 clear hre hb8 hB7 br7 br8 hB8
 go_wp2_with (first | (refine uqd rfl _ _ _ rfl rfl _ _ (kqv (n : Int)) rfl uqe rfl (by simp [Value.oneCell']) ?_) | (refine uqa rfl _ _ rfl (w8.heap.size) rfl _ _ bq9 _ underlying68 rfl uqe ?_))
 generalize w8.alloc _ = w9 at *
 generalize w8.heap.size = gq at *
 refine (HCk.out w9 (HT.out.below hB9)).mono ?_
 rintro e wa ⟨rfl, hba⟩
 have bra := br9.below hba br9.lt
 have bqa := bq9.below hba bq9.lt
 have hBa := hB9.trans (hba.mono hB9.size)
 clear hba hB9 br9 bq9 HCk
 by_cases h0 : er = 0
 rotate_left
 ·have hne : ((er : Int) != 0) = true := by rw [bne_iff_ne]; omega
  have HR2 := zrj (HRr.out.trans (if_pos h0))
  clear h0 HRr
  go_wp2_with (first | (refine uqc rfl _ _ _ rfl w.heap.size rfl _ _ (kqv 0) bra rfl uqe rfl (by simp [Value.oneCell']) ?_))
  refine bodyPost_ret (uqi rfl _ rfl (bra.setRow (kqv 0)) underlying68 rfl uqe) rfl ?_
  exact uxn HR2.out (uqh hBa (zra _) _)
 subst h0
 have HR3 := zrj (HRr.out.trans (if_neg (by simp)))
 clear HRr
 go_wp2_with (first | (refine uqa rfl _ _ rfl gq rfl _ _ bqa _ underlying68 rfl uqe ?_) | (refine uqc rfl _ _ _ rfl w.heap.size rfl _ _ (kqv (n : Int)) bra rfl uqe rfl (by simp [Value.oneCell']) ?_))
 refine bodyPost_ret (uqi rfl _ rfl (bra.setRow (kqv (n : Int))) underlying68 rfl uqe) rfl ?_
 rw [HR3.out]
 exact ⟨rfl, uqh hBa (zra _) _⟩
end Go.Proofs.YtibiankbmhdljabGreatDoor
