/-
  Several texts in one: UpB, LoadW.
-/
import Derived.Test.YtejdhcipmkaboaaDoorPkUp
import Derived.Test.YtejdhcipmkaboaaDoorPkEnc
import Derived.Test.YtejdhcipmkaboaaDoorPkTake
import Derived.Test.YtejdhcipmkaboaaDoorPkBase
/-
  The contract of up.Bytes.
-/
set_option linter.unusedVariables false
set_option linter.unusedSimpArgs false
namespace Go.Proofs.YtejdhcipmkaboaaDoor
open Go.RowKit
theorem textOk_sz {s : ByteArray} (h : textOk s = true) : s.size ≤ 16 := by
  unfold textOk at h
  rw [Bool.and_eq_true] at h
  exact of_decide_eq_true h.1
theorem nameOk_sz {s : ByteArray} (h : nameOk s = true) : s.size ≤ 16 := by
  unfold nameOk at h
  rw [Bool.and_eq_true] at h
  exact textOk_sz h.2
theorem Fine.sz {s : St} (h : Fine s) : StSz s where
  j := fun x hx => by
    obtain ⟨⟨h1, h2⟩, _⟩ := jobE_iff.1 (h.j x hx)
    have := nameOk_sz h1
    have := textOk_sz h2
    omega
  n := fun x hx => by
    obtain ⟨⟨h1, h2⟩, _⟩ := nodeE_iff.1 (h.n x hx)
    have := nameOk_sz h1
    have := textOk_sz h2
    omega
  nr := fun x hx => by
    obtain ⟨_, h1, h2⟩ := nodeE_iff.1 (h.n x hx)
    omega
  lj := by have := h.nj; omega
  ln := by have := h.nn; omega
  ll := by have := h.nl; omega
/-- What Bytes answers. -/
def upBR (b : List UInt8) (a c : Int) : List UInt8 × Nat :=
  if decide (1 ≤ a ∧ a ≤ c ∧ c ≤ 3) = false then ([], 1) else if (decT a b).2 ≠ 0 then ([], (decT a b).2) else encR c (upTo (decT a b).1 a.toNat (c - a).toNat)
set_option maxHeartbeats 4000000 in
set_option maxRecDepth 100000 in
theorem upBytes_any (b : ByteArray) (a c : Int) (w : World) (hb : b.size ≤ 4611686018427387904) (hT : Tabs w) :
    Calls Tryd.prog 27 #[.string b, .int .i64 a, .int .i64 c] w fun e w' => e = .returned (.tuple #[.string (bstr (upBR b.data.toList a c).1), .int .i64 ((upBR b.data.toList a c).2 : Int)]) ∧ Below w.heap.size w w' := by
  have hzs := zero_state_lit
  have HW := Lib.hid (fun W : World => isWay_any a c W)
  have HT := Lib.hid hT
  have HBS := Lib.hid hb
  clear hT hb
  cases hd : decide (1 ≤ a ∧ a ≤ c ∧ c ≤ 3)
  · have hR : upBR b.data.toList a c = ([], 1) := by unfold upBR; rw [hd, if_pos rfl]
    have hw := HW.out
    rw [hd] at hw
    have HW2 := Lib.hid hw
    have HR := Lib.hid hR
    generalize upBR b.data.toList a c = r at *
    clear hw hR hd HW
    go_enter Tryd.func27, Tryd.ntmps27
    go_wp2_with fail
    refine (HW2.out _).mono ?_
    rintro e w' ⟨rfl, rfl⟩
    go_wp2_with fail
    go_ret2
    exact ⟨by rw [HR.out]; rfl, Below.refl _ _⟩
  · obtain ⟨h1, h2, h3⟩ := of_decide_eq_true hd
    obtain ⟨m, rfl⟩ := Int.eq_ofNat_of_zero_le (show 0 ≤ a by omega)
    obtain ⟨n, rfl⟩ := Int.eq_ofNat_of_zero_le (show 0 ≤ c by omega)
    have hw := HW.out
    rw [hd] at hw
    have HW2 := Lib.hid hw
    have hR : upBR b.data.toList m n = if (decT m b.data.toList).2 ≠ 0 then ([], (decT m b.data.toList).2) else encR n (upTo (decT m b.data.toList).1 m (n - m)) := by
      unfold upBR
      rw [hd, if_neg (by simp), show ((m : Int)).toNat = m by omega, show ((n : Int) - (m : Int)).toNat = n - m by omega]
    have HR := Lib.hid hR
    generalize upBR b.data.toList m n = r at *
    clear hw hR hd HW
    go_enter Tryd.func27, Tryd.ntmps27
    go_wp2_with fail
    refine (HW2.out _).mono ?_
    rintro e w' ⟨rfl, rfl⟩
    go_wp2_with fail
    refine (decode_state b m w HBS.out HT.out).mono ?_
    rintro e w1 ⟨t, er, q1, q2, q3, d1, d2, d3, rfl, hmt, _, hb1, hdt⟩
    have hr := HR.out
    have hck : (decT m b.data.toList).2 = 0 → checkE (decT m b.data.toList).1 = 0 := fun h => (decT_ok h).2.1
    rw [hdt] at hr hck
    have hB2 := hb1.alloc hb1.size (.cells #[Value.int .i64 t.rev, Value.slice q1 t.jobs.length d1, Value.slice q2 t.nodes.length d2, Value.slice q3 t.leases.length d3] 26)
    have hb2 : Below w1.heap.size w1 (w1.alloc (.cells #[Value.int .i64 t.rev, Value.slice q1 t.jobs.length d1, Value.slice q2 t.nodes.length d2, Value.slice q3 t.leases.length d3] 26)) := (Below.refl _ _).alloc (Nat.le_refl _) _
    by_cases he : er = 0
    · subst he
      rw [if_neg (by simp)] at hr
      have hF := (fine_iff t).1 (hck rfl)
      have z0 : (((0 : Nat) : Int) != 0) = false := rfl
      have bt := Blk.new w1 26 #[Value.int .i64 t.rev, Value.slice q1 t.jobs.length d1, Value.slice q2 t.nodes.length d2, Value.slice q3 t.leases.length d3]
      have hS := upSteps_any t m n (by omega) (by omega) (by omega) q1 q2 q3 d1 d2 d3 _ ((hmt.below hb2).more hb2.size) (by have := hF.nj; omega) (by have := hF.nn; omega) (by have := hF.nl; omega)
      have hFu := hF.upTo m (n - m)
      have HSZ := Lib.hid hFu.sz
      have HS := Lib.hid hS
      have HR2 := Lib.hid hr
      generalize upTo t m (n - m) = u at *
      clear hmt hb1 hb2 hS hr hck hdt HR hF hFu
      go_upto_region 4 with (refine wpList_store_new rfl _ _ _ rfl rfl 26 _ #[Value.int .i64 t.rev, Value.slice q1 t.jobs.length d1, Value.slice q2 t.nodes.length d2, Value.slice q3 t.leases.length d3] rfl state_size rfl (one_st4 _ _ _ _ _ _ _ _ _ _) ?_)
      generalize hg : w1.heap.size = g at *
      generalize w1.alloc _ = w2 at *
      go_wp2_with (refine wpList_load_blk rfl _ _ rfl g rfl _ #[Value.int .i64 t.rev, Value.slice q1 t.jobs.length d1, Value.slice q2 t.nodes.length d2, Value.slice q3 t.leases.length d3] bt _ Tryd.underlying26 rfl state_size ?_)
      refine HS.out.mono ?_
      rintro e w3 ⟨r1, r2, r3, g1, g2, g3, rfl, hO3, hb3⟩
      have hB3 := hB2.trans (hb3.mono hB2.size)
      have hE := encode_state u n r1 r2 r3 g1 g2 g3 w3 hO3.m HSZ.out (HT.out.below hB3)
      have HE := Lib.hid hE
      clear hE hO3 hb3 HS
      go_wp2_with fail
      refine HE.out.mono ?_
      rintro e w4 ⟨rfl, hb4⟩
      go_wp2_with fail
      go_ret2
      exact ⟨by rw [HR2.out]; rfl, hB3.trans (hb4.mono hB3.size)⟩
    · have z0 : ((er : Int) != 0) = true := by rw [bne_iff_ne]; omega
      rw [if_pos he] at hr
      have HR2 := Lib.hid hr
      clear hmt hb1 hb2 hr hck hdt HR
      go_wp2_with (refine wpList_store_new rfl _ _ _ rfl rfl 26 _ #[Value.int .i64 t.rev, Value.slice q1 t.jobs.length d1, Value.slice q2 t.nodes.length d2, Value.slice q3 t.leases.length d3] rfl state_size rfl (one_st4 _ _ _ _ _ _ _ _ _ _) ?_)
      go_ret2
      exact ⟨by rw [HR2.out]; rfl, hB2⟩
end Go.Proofs.YtejdhcipmkaboaaDoor

/-
  A whole block read by value, guarded or not. No program.
-/
set_option linter.unusedVariables false
set_option linter.unusedSimpArgs false
namespace Go.Proofs.YtejdhcipmkaboaaDoor
open Go.RowKit
section
variable {P : Program} {w : World} {ops : Array Oper} {rest : List Oper} {op : Oper} {a : Act} {Q : Exit → Act → World → Prop}
theorem wpList_load_blk_w (hw : Region.wanted op (yielded ops a.tmps) = true) (ty : TypeId) (x : Operand) (ho : op.op = .load ty x) (g : Nat) (hx : a.eval x = .pointer (some ⟨g, 0, none⟩)) (t : TypeId) (cs : Array Value) (hb : Blk w g t cs)
    (d : TypeDesc) (hu : P.underlying ty = some d) (hd : TypeDesc.isRow d = true) (hi : (P.info? ty).map (·.size) = some cs.size)
    (h : wpList P ops Q rest (a.put op.dst (.agg cs)) w) : wpList P ops Q (op :: rest) a w :=
  wpList_step fun K hK => by
    rw [if_pos hw]
    unfold Oper.wp execOp
    simp only [ho, hx, Instr.loadAt, Instr.sureAddr, Sem.run_bind, Sem.run_pure, Result.andThen_ok, loadVar_blk hb hu hd hi]
    exact hK _ _ h
end
end Go.Proofs.YtejdhcipmkaboaaDoor
