/-
  Several texts in one: SvDoHl.
-/
import Derived.Test.YtibiankbmhdljabGreatDoorPgSvNew
import Derived.Test.YtibiankbmhdljabGreatDoorPgSvSame
import Derived.Test.YtibiankbmhdljabGreatDoorPgReqB
set_option linter.all false
set_option maxHeartbeats 16000000
set_option maxRecDepth 100000
namespace Go.Proofs.YtibiankbmhdljabGreatDoor
open Go.Proofs.Tryz
open Go.RowKit
section
variable {P : Program} {w : World}
theorem wxx {fn : Func} {p p' u : Tmp} {ty t ty' t' : TypeId} {g g' : Nat} {cs cs' : Array Value} {d d' : TypeDesc} (h : fn.results = #[.cell p ty, .cell p' ty', .tmp u]) (tmps : Array Value) (hp : tmps.getD p undef = .pointer (some ⟨g, 0, none⟩)) (hb : Blk w g t cs)
  (hu : P.underlying ty = some d) (hd : TypeDesc.isRow d = true) (hi : (P.info? ty).map (·.size) = some cs.size) (hp2 : tmps.getD p' undef = .pointer (some ⟨g', 0, none⟩)) (hb2 : Blk w g' t' cs')
  (hu2 : P.underlying ty' = some d') (hd2 : TypeDesc.isRow d' = true) (hi2 : (P.info? ty').map (·.size) = some cs'.size) : (results fn tmps).run P w = .ok (.tuple #[.agg cs, .agg cs', tmps.getD u undef]) w := by
 have h1 : tmps[p]?.getD undef = .pointer (some ⟨g, 0, none⟩) := by simpa using hp
 have h2 : tmps[p']?.getD undef = .pointer (some ⟨g', 0, none⟩) := by simpa using hp2
 simp only [results, h]
 simp [Sem.run_bind, Result.andThen, h1, h2, asAddr, uz6 hb hu hd hi, uz6 hb2 hu2 hd2 hi2]
end
theorem vzz (W : World) : (zeroValue 174).run prog W = .ok (.agg #[.int .i64 0, .int .i64 0]) W := by kernel_rfl
theorem vy5 (W : World) : (zeroValue 248).run prog W = .ok (.agg #[.pointer none, .int .i64 0]) W := by kernel_rfl
theorem vjg : (prog.info? 174).map (·.size) = some 2 := by kernel_rfl
theorem xzc (a b : Int) : (#[.int .i64 a, .int .i64 b] : Array Value).all (·.oneCell') = true := by simp [Value.oneCell']
def toldD (r : DoR) : uq1 := r.told.getD noD
def wkk (w : World) (g : Nat) (r : DoR) (e : Ending) (w' : World) : Prop :=
 ∃ x1 x2 x3 x4 x5 x6 y1 y2 y3 y4 y5 y6, e = .returned (.tuple #[.agg #[.int .i64 ((r.code : Nat) : Int), .int .i64 r.srv.st.rev], .agg #[.int .i64 (toldD r).frm, .int .i64 (toldD r).upto, .slice x1 (toldD r).jobs.length y1, .slice x2 (toldD r).nodes.length y2, .slice x3 (toldD r).leases.length y3, .slice x4 (toldD r).gj.length y4, .slice x5 (toldD r).gn.length y5, .slice x6 (toldD r).gl.length y6], .bool r.told.isSome]) ∧ SvI w' g r.srv ∧ w.grownBy w' (some g) ∧ DelOwn w' w.heap.size x1 x2 x3 x4 x5 x6 y1 y2 y3 y4 y5 y6 (toldD r)
theorem OwnR.nil0 (w : World) (base size : Nat) (E : TypeId) : OwnR w base E size none 0 [] := ⟨by simp, World.ownsRow_nil _ _ _ _⟩
theorem DelOwn.nil0 (w : World) (base : Nat) : DelOwn w base none none none none none none 0 0 0 0 0 0 noD := ⟨OwnR.nil0 _ _ _ _, OwnR.nil0 _ _ _ _, OwnR.nil0 _ _ _ _, OwnR.nil0 _ _ _ _, OwnR.nil0 _ _ _ _, OwnR.nil0 _ _ _ _⟩
def svT (v : Srv) : Srv × Nat := (⟨v.st, v.now⟩, 0)
section
variable {w : World} {base : Nat} {p1 p2 p3 p4 p5 p6 : Option Addr} {c1 c2 c3 c4 c5 c6 : Nat} {d : uq1}
theorem DelOwn.rowS (h : DelOwn w base p1 p2 p3 p4 p5 p6 c1 c2 c3 c4 c5 c6 d) {g : Nat} (ha : g < base) (cs : Array Value) : DelOwn (w.setRow g cs) base p1 p2 p3 p4 p5 p6 c1 c2 c3 c4 c5 c6 d :=
 ⟨OwnR.row_ h.j ha cs, OwnR.row_ h.n ha cs, OwnR.row_ h.l ha cs, OwnR.row_ h.gj ha cs, OwnR.row_ h.gn ha cs, OwnR.row_ h.gl ha cs⟩
end
theorem Blk.far_row {w : World} {g k : Nat} {t : TypeId} {cs : Array Value} (h : Blk w k t cs) (hne : k ≠ g) (cs' : Array Value) : Blk (w.setRow g cs') k t cs := (setRow_other w g k cs' hne).trans h
theorem svDo_fin {w W : World} {g k1 k2 : Nat} {v : Srv} {c1 c2 : Array Value} (hM : SvI W g v) (hg : w.grownBy W (some g)) (h1 : w.heap.size <= k1) (h2 : w.heap.size <= k2) {t1 t2 : TypeId} {a1 a2 : Array Value} (b1 : Blk W k1 t1 a1) (b2 : Blk W k2 t2 a2)
  (n1 : t1 ≠ 165 ∧ 62 ≠ t1 ∧ 64 ≠ t1 ∧ 66 ≠ t1) (n2 : t2 ≠ 165 ∧ 62 ≠ t2 ∧ 64 ≠ t2 ∧ 66 ≠ t2) (hne : k1 ≠ k2) :
  SvI ((W.drew.setRow k1 c1).setRow k2 c2) g v ∧ w.grownBy ((W.drew.setRow k1 c1).setRow k2 c2) (some g) := by
 obtain ⟨q1, q2, q3, d1, d2, d3, hM⟩ := hM
 have M0 := hM.below (zri _ W).drew
 have e1 := b1.drew
 have e2 := b2.drew.far_row (Ne.symm hne) c1
 have M1 : SvM (W.drew.setRow k1 c1) g q1 q2 q3 d1 d2 d3 v := ⟨M0.b.far_row (M0.b.ne_ e1 (Ne.symm n1.1)) c1, M0.own.other (growR _ k1 c1) e1 n1.2.1 n1.2.2.1 n1.2.2.2⟩
 have M2 : SvM ((W.drew.setRow k1 c1).setRow k2 c2) g q1 q2 q3 d1 d2 d3 v := ⟨M1.b.far_row (M1.b.ne_ e2 (Ne.symm n2.1)) c2, M1.own.other (growR _ k2 c2) e2 n2.2.1 n2.2.2.1 n2.2.2.2⟩
 refine ⟨⟨q1, q2, q3, d1, d2, d3, M2⟩, ⟨hg.os, hg.tape, hg.output, ?_, fun k hk hn => ?_⟩⟩
 ·simpa using hg.size
 ·have x1 := setRow_other (W.drew.setRow k1 c1) k2 k c2 (by omega)
  have x2 := setRow_other W.drew k1 k c1 (by omega)
  exact (x1.trans x2).trans (hg.block k hk hn)
theorem SvM.setNow {w : World} {g : Nat} {q1 q2 q3 : Option Addr} {d1 d2 d3 : Nat} {v : Srv} (h : SvM w g q1 q2 q3 d1 d2 d3 v) (m : Int) : SvM (w.setCell ⟨g, 4, none⟩ (.int .i64 m)) g q1 q2 q3 d1 d2 d3 ⟨v.st, m⟩ :=
 ⟨h.b.set_ 4 _, h.own.other (uza w g 4 _) h.b (by decide) (by decide) (by decide)⟩
theorem doN_s {v : Srv} {q : ReqD} (hv : SrvOk v) (hq : reqE q = 0) {s' : St} {now' : Int} (hd : doW v q = (⟨s', now'⟩, 0)) : Fine s' ∧ s'.rev = v.st.rev := by
 have h1 := (doW_ok hv hq (by rw [hd])).1.1
 have h2 := xxa v q
 rw [hd] at h1 h2
 exact ⟨h1, h2⟩
end Go.Proofs.YtibiankbmhdljabGreatDoor
