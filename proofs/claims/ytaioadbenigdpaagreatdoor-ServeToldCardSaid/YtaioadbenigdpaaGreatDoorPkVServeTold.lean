/-
  Several texts in one: VServeTold.
-/
import Derived.Test.YtaioadbenigdpaaGreatDoorPkBase
import Derived.Test.YtaioadbenigdpaaGreatDoorPkSvLaw
import Derived.Test.YtaioadbenigdpaaGreatDoorPkSvTold
set_option linter.unusedVariables false
set_option linter.unusedSimpArgs false
set_option maxHeartbeats 16000000
set_option maxRecDepth 100000
namespace Go.Proofs.YtaioadbenigdpaaGreatDoor.serveTold
open Go.ChangeShapes Go.WideShapes Go.ChangeAt Go.RowKit Go.Joins
open Go.ChangeMaps (open_string)
theorem walk (s0 : St) (pj0 pn0 pl0 : Option Addr) (cj0 cn0 cl0 : Nat) (w : World) (hm0 : StM w w.heap.size pj0 pn0 pl0 s0) (hk0 : StOk s0) (pq1 : Option Addr) (cq1 : Nat) (l1 : List ReqD) (hel1 : Elts w w.heap.size 14 pq1 (l1.map rowQ)) (hok1 : ∀ x ∈ l1, okQ x) (hl1 : l1.length ≤ 9223372036854775807) (hT : Tabs w) :
  Calls Tryz.prog 4 #[.agg #[.int .i64 s0.rev, .slice pj0 s0.jobs.length cj0, .slice pn0 s0.nodes.length cn0, .slice pl0 s0.leases.length cl0], .slice pq1 l1.length cq1] w fun e w' => e = .returned (.bool true) ∧ Below w.heap.size w w' := by
 have b1 := (Blk.new w 26 #[.int .i64 s0.rev, .slice pj0 s0.jobs.length cj0, .slice pn0 s0.nodes.length cn0, .slice pl0 s0.leases.length cl0])
 have c2 : Below w.heap.size w (w.alloc (.cells #[.int .i64 s0.rev, .slice pj0 s0.jobs.length cj0, .slice pn0 s0.nodes.length cn0, .slice pl0 s0.leases.length cl0] 26)) := ((Below.refl _ _).alloc (Nat.le_refl _) (.cells #[.int .i64 s0.rev, .slice pj0 s0.jobs.length cj0, .slice pn0 s0.nodes.length cn0, .slice pl0 s0.leases.length cl0] 26))
 have HM0 := Lib.hid hm0
 have HZ0 := Lib.hid hk0.sz
 have HEL := Lib.hid hel1
 have HOK := Lib.hid hok1
 have HT := Lib.hid hT
 have hzr := zero_rep_lit
 have hzd := zero_delta_lit
 have hzs := zero_state_lit
 have hzq := zero_request_lit
 have hzj := zero_job_lit
 have hzl := zero_lease_lit
 have z0 : (((0 : Nat) : Int) != 0) = false := rfl
 have z1 : (((0 : Nat) : Int) == 0) = true := rfl
 clear hT hm0 hk0 hel1 hok1
 by_cases hE : checkE s0 = 0
 ·have HE := Lib.hid hE
  have F0 := Lib.hid ((fine_iff s0).1 hE)
  clear hE
  go_enter Tryz.func4, Tryz.ntmps4
  go_wp2_with fail
  generalize w.alloc _ = W3 at *
  refine (served_any _ (HT.out.below c2)).mono ?_
  rintro e w4 ⟨rfl, hb5⟩
  have b6 := b1.below hb5 b1.lt
  have c7 := c2.trans (hb5.mono c2.size)
  clear b1 c2 hb5
  go_wp2_with (first | (refine wpList_load_blk_w (by rfl) _ _ rfl (w.heap.size) rfl _ _ b6 _ Tryz.underlying26 rfl state_size ?_))
  have OK14 := Lib.hid (show SrvOk ⟨s0, 0⟩ from ⟨F0.out, Int.le_refl _, (by decide : (0 : Int) ≤ 1099511627776)⟩)
  refine (svNew_ok s0 pj0 pn0 pl0 cj0 cn0 cl0 _ ((HM0.out.below c7).more c7.size) HZ0.out (HT.out.below c7) HE.out).mono ?_
  rintro e w8 ⟨g10, rfl, hg11, i12, hb9⟩
  have ge13 : w.heap.size ≤ g10 := Nat.le_trans c7.size hg11
  clear hg11
  have b15 := b6.below hb9 b6.lt
  have c16 := c7.trans (hb9.mono c7.size)
  clear b6 c7 hb9
  have hkw := c16.size
  have bsO := b15
  have hb17 : Below w8.heap.size w8 (w8.alloc (.cells #[.int .i64 s0.rev, .slice pj0 s0.jobs.length cj0, .slice pn0 s0.nodes.length cn0, .slice pl0 s0.leases.length cl0] 26)) := (Below.refl _ _).alloc (Nat.le_refl _) _
  have b18 := Blk.new w8 26 #[.int .i64 s0.rev, .slice pj0 s0.jobs.length cj0, .slice pn0 s0.nodes.length cn0, .slice pl0 s0.leases.length cl0]
  have b19 := b15.below hb17 b15.lt
  have i20 := i12.below hb17
  have c21 := c16.trans (hb17.mono c16.size)
  clear b15 i12 c16 hb17
  go_upto_region 7 with (first | (refine wpList_store_new rfl _ _ _ rfl rfl 26 _ #[.int .i64 s0.rev, .slice pj0 s0.jobs.length cj0, .slice pn0 s0.nodes.length cn0, .slice pl0 s0.leases.length cl0] rfl state_size rfl (one_st4 _ _ _ _ _ _ _ _ _ _) ?_) | (refine wpList_load_blk_w (by rfl) _ _ rfl (w.heap.size) rfl _ _ bsO _ Tryz.underlying26 rfl state_size ?_) | (refine wpList_load_blk_w (by rfl) _ _ rfl (w.heap.size) rfl _ _ b19 _ Tryz.underlying26 rfl state_size ?_) | (refine wpList_load_blk_w (by rfl) _ _ rfl (w8.heap.size) rfl _ _ b18 _ Tryz.underlying26 rfl state_size ?_))
  generalize w8.alloc _ = W22 at *
  generalize w8.heap.size = g23 at *
  clear bsO
  go_wp2_with (first | (refine wpList_load_blk_w (by rfl) _ _ rfl (w.heap.size) rfl _ _ b19 _ Tryz.underlying26 rfl state_size ?_) | (refine wpList_load_blk_w (by rfl) _ _ rfl (g23) rfl _ _ b18 _ Tryz.underlying26 rfl state_size ?_))
  go_loopw [34] (fun i wr => ∃ (k : Nat) (v : Srv) (q1 q2 q3 : Option Addr) (d1 d2 d3 : Nat), k ≤ l1.length ∧ i = .int .i64 k ∧ SvI wr g10 v ∧ Hid (SrvOk v) ∧ Below w.heap.size w wr ∧ Blk wr g23 26 #[.int .i64 v.st.rev, .slice q1 v.st.jobs.length d1, .slice q2 v.st.nodes.length d2, .slice q3 v.st.leases.length d3] ∧ RowsAt w wr q1 q2 q3 d1 d2 d3 v.st) (fun i _ => l1.length - (intOf i).toNat)
  case atStart => exact ⟨0, ⟨s0, 0⟩, pj0, pn0, pl0, cj0, cn0, cl0, Nat.zero_le _, rfl, i20, OK14.out, c21, b18, .inl HM0.out⟩
  case round =>
   obtain ⟨k, v, q1, q2, q3, d1, d2, d3, hk, rfl, hI, OKv, cc, bw, rw_⟩ := hrel
   clear i20 c21 b19 b18
   by_cases hlt : k < l1.length
   ·have hx : l1[k]? = some l1[k] := List.getElem?_eq_getElem hlt
    have hq := HOK.out l1[k] (List.getElem_mem hlt)
    generalize l1[k] = q at *
    obtain ⟨a, rfl, hab, _, hat⟩ := (HEL.out.below cc).at_ (k := k) (r := rowQ q) (by rw [List.getElem?_map, hx]; rfl)
    have HSq := Lib.hid (ReqSz.of hq)
    clear hx hq hab
    have hb24 : Below wr.heap.size wr (wr.alloc (.cells #[.int .i64 q.kind, .string q.job.name, .int .i64 q.job.prio, .int .i64 q.job.need, .int .i64 q.job.tries, .string q.job.tag, .string q.node.name, .int .i64 q.node.room, .string q.node.zone, .string q.lease.job, .string q.lease.node, .int .i64 q.lease.till, .string q.name, .int .i64 q.n] 43)) := (Below.refl _ _).alloc (Nat.le_refl _) _
    have b25 := Blk.new wr 43 #[.int .i64 q.kind, .string q.job.name, .int .i64 q.job.prio, .int .i64 q.job.need, .int .i64 q.job.tries, .string q.job.tag, .string q.node.name, .int .i64 q.node.room, .string q.node.zone, .string q.lease.job, .string q.lease.node, .int .i64 q.lease.till, .string q.name, .int .i64 q.n]
    have b26 := bw.below hb24 bw.lt
    have o27 := rw_.below hb24
    have i28 := hI.below hb24
    have c29 := cc.trans (hb24.mono cc.size)
    clear bw rw_ hI cc hb24
    go_wp2_with (first | (refine wpList_store_new rfl _ _ _ rfl rfl 43 _ #[.int .i64 q.kind, .string q.job.name, .int .i64 q.job.prio, .int .i64 q.job.need, .int .i64 q.job.tries, .string q.job.tag, .string q.node.name, .int .i64 q.node.room, .string q.node.zone, .string q.lease.job, .string q.lease.node, .int .i64 q.lease.till, .string q.name, .int .i64 q.n] rfl request_size rfl (one_q q.kind q.job q.node q.lease q.name q.n) ?_) | (refine wpList_load_at rfl _ _ rfl (a.add (k * 14)) rfl [Value.int .i64 q.kind, Value.string q.job.name, Value.int .i64 q.job.prio, Value.int .i64 q.job.need, Value.int .i64 q.job.tries, Value.string q.job.tag, Value.string q.node.name, Value.int .i64 q.node.room, Value.string q.node.zone, Value.string q.lease.job, Value.string q.lease.node, Value.int .i64 q.lease.till, Value.string q.name, Value.int .i64 q.n] _ hat Tryz.underlying43 rfl request_size ?_) | (refine wpList_load_blk_w (by rfl) _ _ rfl (g23) rfl _ _ b26 _ Tryz.underlying26 rfl state_size ?_) | (refine wpList_load_blk_w (by rfl) _ _ rfl (wr.heap.size) rfl _ _ b25 _ Tryz.underlying43 rfl request_size ?_))
    generalize wr.alloc _ = W30 at *
    generalize wr.heap.size = g31 at *
    refine (svDo_any q v g10 _ i28 OKv.out HSq.out (HT.out.below c29)).mono ?_
    rintro e w32 ⟨x36a, x36b, x36c, x36d, x36e, x36f, y36a, y36b, y36c, y36d, y36e, y36f, rfl, i33, hg34, hd35⟩
    obtain ⟨cs37, hc38⟩ := i28.blk
    have b39 := blk_srv i28 hg34 b26 (by decide)
    have b40 := blk_srv i28 hg34 b25 (by decide)
    have o41 := o27.other hg34 hc38 (by decide) (by decide) (by decide)
    have c42 := below_grown c29 hg34 ge13 c29.size
    have OK43 := Lib.hid (doR_ok OKv.out q).1
    clear i28 c29 hg34 hc38 b26 b25 o27
    have HF := Lib.hid (told_is OKv.out q)
    generalize (doR v q) = r44 at *
    generalize r44.srv = v2 at *
    have t46 := two_first (w := w32)
    have t47 := two_second (w := w32) #[.int .i64 ((r44.code : Nat) : Int), .int .i64 v2.st.rev]
    obtain ⟨hb48, G45⟩ := two_blks (w := w32) (rc := #[.int .i64 ((r44.code : Nat) : Int), .int .i64 v2.st.rev]) (dc := #[.int .i64 (toldD r44).frm, .int .i64 (toldD r44).upto, .slice x36a (toldD r44).jobs.length y36a, .slice x36b (toldD r44).nodes.length y36b, .slice x36c (toldD r44).leases.length y36c, .slice x36d (toldD r44).gj.length y36d, .slice x36e (toldD r44).gn.length y36e, .slice x36f (toldD r44).gl.length y36f])
    have b49 := b39.below hb48 b39.lt
    have b50 := b40.below hb48 b40.lt
    have o51 := o41.below hb48
    have i52 := i33.below hb48
    have c53 := c42.trans (hb48.mono c42.size)
    have m54 := (hd35.below hb48).more hb48.size
    clear b39 b40 o41 i33 c42 hb48 hd35
    go_upto_region 11 with (first | (refine wpList_store_blk rfl _ _ _ rfl w32.heap.size rfl _ _ #[.int .i64 ((r44.code : Nat) : Int), .int .i64 v2.st.rev] t46 rfl rep_size rfl (one_rep _ _) ?_) | (refine wpList_store_blk rfl _ _ _ rfl (w32.heap.size + 1) rfl _ _ #[.int .i64 (toldD r44).frm, .int .i64 (toldD r44).upto, .slice x36a (toldD r44).jobs.length y36a, .slice x36b (toldD r44).nodes.length y36b, .slice x36c (toldD r44).leases.length y36c, .slice x36d (toldD r44).gj.length y36d, .slice x36e (toldD r44).gn.length y36e, .slice x36f (toldD r44).gl.length y36f] t47 rfl delta_size rfl (one_d8 _ _ _ _ _ _ _ _ _ _ _ _ _ _ _ _ _ _ _ _) ?_) )
    obtain ⟨b57, b58⟩ := G45
    clear t46 t47
    generalize (((w32.alloc _).alloc _).setRow _ _).setRow _ _ = W55 at *
    generalize w32.heap.size = k56 at *
    go_wp2_with (first | (refine wpList_load_blk_w (by rfl) _ _ rfl (g23) rfl _ _ b49 _ Tryz.underlying26 rfl state_size ?_) | (refine wpList_load_blk_w (by rfl) _ _ rfl (g31) rfl _ _ b50 _ Tryz.underlying43 rfl request_size ?_) | (refine wpList_load_blk_w (by rfl) _ _ rfl (k56) rfl _ _ b57 _ Tryz.underlying45 rfl rep_size ?_) | (refine wpList_load_blk_w (by rfl) _ _ rfl ((k56 + 1)) rfl _ #[.int .i64 (toldD r44).frm, .int .i64 (toldD r44).upto, .slice x36a (toldD r44).jobs.length y36a, .slice x36b (toldD r44).nodes.length y36b, .slice x36c (toldD r44).leases.length y36c, .slice x36d (toldD r44).gj.length y36d, .slice x36e (toldD r44).gn.length y36e, .slice x36f (toldD r44).gl.length y36f] b58 _ Tryz.underlying48 rfl delta_size ?_))
    refine (svState_any g10 v2 _ i52 OK43.out.1).mono ?_
    rintro e w59 ⟨q61a, q61b, q61c, d61a, d61b, d61c, rfl, o62, hb60⟩
    have b63 := b49.below hb60 b49.lt
    have b64 := b50.below hb60 b50.lt
    have b65 := b57.below hb60 b57.lt
    have b66 := b58.below hb60 b58.lt
    have m67 := (m54.below hb60).more hb60.size
    have o68 := o51.below hb60
    have i69 := i52.below hb60
    have c70 := c53.trans (hb60.mono c53.size)
    clear b49 b50 b57 b58 m54 o51 i52 c53 hb60
    have hb71 : Below w59.heap.size w59 (w59.alloc (.cells #[.int .i64 v2.st.rev, .slice q61a v2.st.jobs.length d61a, .slice q61b v2.st.nodes.length d61b, .slice q61c v2.st.leases.length d61c] 26)) := (Below.refl _ _).alloc (Nat.le_refl _) _
    have b72 := Blk.new w59 26 #[.int .i64 v2.st.rev, .slice q61a v2.st.jobs.length d61a, .slice q61b v2.st.nodes.length d61b, .slice q61c v2.st.leases.length d61c]
    have b73 := b63.below hb71 b63.lt
    have b74 := b64.below hb71 b64.lt
    have b75 := b65.below hb71 b65.lt
    have b76 := b66.below hb71 b66.lt
    have m77 := (m67.below hb71).more hb71.size
    have o78 := o68.below hb71
    have o79 := o62.below hb71
    have i80 := i69.below hb71
    have c81 := c70.trans (hb71.mono c70.size)
    clear b63 b64 b65 b66 m67 o68 o62 i69 c70 hb71
    go_upto_region 12 with (first | (refine wpList_store_new rfl _ _ _ rfl rfl 26 _ #[.int .i64 v2.st.rev, .slice q61a v2.st.jobs.length d61a, .slice q61b v2.st.nodes.length d61b, .slice q61c v2.st.leases.length d61c] rfl state_size rfl (one_st4 _ _ _ _ _ _ _ _ _ _) ?_) | (refine wpList_load_blk_w (by rfl) _ _ rfl (g23) rfl _ _ b73 _ Tryz.underlying26 rfl state_size ?_) | (refine wpList_load_blk_w (by rfl) _ _ rfl (g31) rfl _ _ b74 _ Tryz.underlying43 rfl request_size ?_) | (refine wpList_load_blk_w (by rfl) _ _ rfl (k56) rfl _ _ b75 _ Tryz.underlying45 rfl rep_size ?_) | (refine wpList_load_blk_w (by rfl) _ _ rfl ((k56 + 1)) rfl _ #[.int .i64 (toldD r44).frm, .int .i64 (toldD r44).upto, .slice x36a (toldD r44).jobs.length y36a, .slice x36b (toldD r44).nodes.length y36b, .slice x36c (toldD r44).leases.length y36c, .slice x36d (toldD r44).gj.length y36d, .slice x36e (toldD r44).gn.length y36e, .slice x36f (toldD r44).gl.length y36f] b76 _ Tryz.underlying48 rfl delta_size ?_) | (refine wpList_load_blk_w (by rfl) _ _ rfl (w59.heap.size) rfl _ _ b72 _ Tryz.underlying26 rfl state_size ?_))
    generalize w59.alloc _ = W82 at *
    generalize w59.heap.size = g83 at *
    generalize hfl : r44.told.isSome = fl at *
    clear hfl
    obtain ⟨HF1, HF2⟩ := HF.out
    clear HF
    have H1 := Lib.hid HF1
    have H2 := Lib.hid HF2
    clear HF1 HF2
    cases fl
    ·obtain ⟨e1, e2⟩ := H2.out rfl
     rw [e2] at b76 m77
     have HEQ := Lib.hid (show v.st = v2.st from e1.symm)
     clear e1 e2 H1 H2
     go_wp2_with (first | (refine wpList_load_blk_w (by rfl) _ _ rfl (g23) rfl _ _ b73 _ Tryz.underlying26 rfl state_size ?_) | (refine wpList_load_blk_w (by rfl) _ _ rfl (g31) rfl _ _ b74 _ Tryz.underlying43 rfl request_size ?_) | (refine wpList_load_blk_w (by rfl) _ _ rfl (k56) rfl _ _ b75 _ Tryz.underlying45 rfl rep_size ?_) | (refine wpList_load_blk_w (by rfl) _ _ rfl ((k56 + 1)) rfl _ #[.int .i64 noD.frm, .int .i64 noD.upto, .slice x36a noD.jobs.length y36a, .slice x36b noD.nodes.length y36b, .slice x36c noD.leases.length y36c, .slice x36d noD.gj.length y36d, .slice x36e noD.gn.length y36e, .slice x36f noD.gl.length y36f] b76 _ Tryz.underlying48 rfl delta_size ?_) | (refine wpList_load_blk_w (by rfl) _ _ rfl (g83) rfl _ _ b72 _ Tryz.underlying26 rfl state_size ?_))
     have HR := Lib.hid (same_any v.st v2.st q1 q2 q3 q61a q61b q61c d1 d2 d3 d61a d61b d61c _ (o78.mm c81) o79.m OKv.out.1.sz OK43.out.1.sz)
     rw [decide_eq_true HEQ.out] at HR
     refine (HR.out).mono ?_
     rintro e w84 ⟨rfl, hb85⟩
     have b86 := b73.below hb85 b73.lt
     have b87 := b74.below hb85 b74.lt
     have b88 := b75.below hb85 b75.lt
     have b89 := b76.below hb85 b76.lt
     have b90 := b72.below hb85 b72.lt
     have m91 := (m77.below hb85).more hb85.size
     have o92 := o78.below hb85
     have o93 := o79.below hb85
     have i94 := i80.below hb85
     have c95 := c81.trans (hb85.mono c81.size)
     clear b73 b74 b75 b76 b72 m77 o78 o79 i80 c81 hb85
     go_wp2_with (first | (refine wpList_load_blk_w (by rfl) _ _ rfl (g23) rfl _ _ b86 _ Tryz.underlying26 rfl state_size ?_) | (refine wpList_load_blk_w (by rfl) _ _ rfl (g31) rfl _ _ b87 _ Tryz.underlying43 rfl request_size ?_) | (refine wpList_load_blk_w (by rfl) _ _ rfl (k56) rfl _ _ b88 _ Tryz.underlying45 rfl rep_size ?_) | (refine wpList_load_blk_w (by rfl) _ _ rfl ((k56 + 1)) rfl _ #[.int .i64 noD.frm, .int .i64 noD.upto, .slice x36a noD.jobs.length y36a, .slice x36b noD.nodes.length y36b, .slice x36c noD.leases.length y36c, .slice x36d noD.gj.length y36d, .slice x36e noD.gn.length y36e, .slice x36f noD.gl.length y36f] b89 _ Tryz.underlying48 rfl delta_size ?_) | (refine wpList_load_blk_w (by rfl) _ _ rfl (g83) rfl _ _ b90 _ Tryz.underlying26 rfl state_size ?_))
     have HD := Lib.hid (deltaEq_any noD noD x36a x36b x36c x36d x36e x36f none none none none none none y36a y36b y36c y36d y36e y36f 0 0 0 0 0 0 _ m91 (DelM.nil _ _) noD_szS noD_szS)
     rw [show decide (noD = noD) = true from decide_eq_true rfl] at HD
     refine (HD.out).mono ?_
     rintro e w96 ⟨rfl, hb97⟩
     have b98 := b86.below hb97 b86.lt
     have b99 := b87.below hb97 b87.lt
     have b100 := b88.below hb97 b88.lt
     have b101 := b89.below hb97 b89.lt
     have b102 := b90.below hb97 b90.lt
     have m103 := (m91.below hb97).more hb97.size
     have o104 := o92.below hb97
     have o105 := o93.below hb97
     have i106 := i94.below hb97
     have c107 := c95.trans (hb97.mono c95.size)
     clear b86 b87 b88 b89 b90 m91 o92 o93 i94 c95 hb97
     go_upto_region 19 with (first | (refine wpList_load_blk_w (by rfl) _ _ rfl (g83) rfl _ _ b102 _ Tryz.underlying26 rfl state_size ?_) | (refine wpList_store_blk rfl _ _ _ rfl g23 rfl _ _ #[.int .i64 v2.st.rev, .slice q61a v2.st.jobs.length d61a, .slice q61b v2.st.nodes.length d61b, .slice q61c v2.st.leases.length d61c] b98 rfl state_size rfl (one_st4 _ _ _ _ _ _ _ _ _ _) ?_))
     have gx := growR w96 g23 #[.int .i64 v2.st.rev, .slice q61a v2.st.jobs.length d61a, .slice q61b v2.st.nodes.length d61b, .slice q61c v2.st.leases.length d61c]
     have cF := below_setRow c107 hkw #[.int .i64 v2.st.rev, .slice q61a v2.st.jobs.length d61a, .slice q61b v2.st.nodes.length d61b, .slice q61c v2.st.leases.length d61c]
     have bF := b98.setRow #[.int .i64 v2.st.rev, .slice q61a v2.st.jobs.length d61a, .slice q61b v2.st.nodes.length d61b, .slice q61c v2.st.leases.length d61c]
     have oF := o105.other gx b98 (by decide) (by decide) (by decide)
     obtain ⟨i1, i2, i3, i4, i5, i6, hiM⟩ := i106
     have iF : SvI (w96.setRow g23 #[.int .i64 v2.st.rev, .slice q61a v2.st.jobs.length d61a, .slice q61b v2.st.nodes.length d61b, .slice q61c v2.st.leases.length d61c]) g10 v2 := ⟨i1, i2, i3, i4, i5, i6, hiM.b.far_row (hiM.b.ne_ b98 (by decide)) _, hiM.own.other gx b98 (by decide) (by decide) (by decide)⟩
     generalize w96.setRow _ _ = wF at *
     go_wp2_with fail
     go_roundw
     case rel => exact ⟨k + 1, v2, q61a, q61b, q61c, d61a, d61b, d61c, by omega, by go_num, iF, OK43.out, cF, bF, .inr (oF.less (Nat.zero_le _))⟩
     case measure => simp [intOf]; omega
    ·obtain ⟨e1, e2, e3⟩ := H1.out rfl
     rw [e2] at b76 m77
     rw [e1] at b75
     have HE3 := Lib.hid (show checkE v.st = 0 ∧ checkE v2.st = 0 ∧ v.st.rev < v2.st.rev from ⟨(fine_iff _).2 OKv.out.1, (fine_iff _).2 OK43.out.1, e3⟩)
     clear e1 e2 e3 H1 H2
     go_wp2_with (first | (refine wpList_load_blk_w (by rfl) _ _ rfl (g23) rfl _ _ b73 _ Tryz.underlying26 rfl state_size ?_) | (refine wpList_load_blk_w (by rfl) _ _ rfl (g31) rfl _ _ b74 _ Tryz.underlying43 rfl request_size ?_) | (refine wpList_load_blk_w (by rfl) _ _ rfl (k56) rfl _ _ b75 _ Tryz.underlying45 rfl rep_size ?_) | (refine wpList_load_blk_w (by rfl) _ _ rfl ((k56 + 1)) rfl _ #[.int .i64 (betw v.st v2.st).frm, .int .i64 (betw v.st v2.st).upto, .slice x36a (betw v.st v2.st).jobs.length y36a, .slice x36b (betw v.st v2.st).nodes.length y36b, .slice x36c (betw v.st v2.st).leases.length y36c, .slice x36d (betw v.st v2.st).gj.length y36d, .slice x36e (betw v.st v2.st).gn.length y36e, .slice x36f (betw v.st v2.st).gl.length y36f] b76 _ Tryz.underlying48 rfl delta_size ?_) | (refine wpList_load_blk_w (by rfl) _ _ rfl (g83) rfl _ _ b72 _ Tryz.underlying26 rfl state_size ?_))
     refine (apply_svl v.st v2.st q1 q2 q3 d1 d2 d3 x36a x36b x36c x36d x36e x36f y36a y36b y36c y36d y36e y36f _ (o78.mm c81) m77 (HT.out.below c81) HE3.out).mono ?_
     rintro e w84 ⟨ua, ub, uc, va, vb, vc, rfl, m86, hb85⟩
     have b87 := b73.below hb85 b73.lt
     have b88 := b74.below hb85 b74.lt
     have b89 := b75.below hb85 b75.lt
     have b90 := b76.below hb85 b76.lt
     have b91 := b72.below hb85 b72.lt
     have m92 := (m77.below hb85).more hb85.size
     have o93 := o78.below hb85
     have o94 := o79.below hb85
     have i95 := i80.below hb85
     have c96 := c81.trans (hb85.mono c81.size)
     clear b73 b74 b75 b76 b72 m77 o78 o79 i80 c81 hb85
     have hb97 : Below w84.heap.size w84 (w84.alloc (.cells #[.int .i64 v2.st.rev, .slice ua v2.st.jobs.length va, .slice ub v2.st.nodes.length vb, .slice uc v2.st.leases.length vc] 26)) := (Below.refl _ _).alloc (Nat.le_refl _) _
     have b98 := Blk.new w84 26 #[.int .i64 v2.st.rev, .slice ua v2.st.jobs.length va, .slice ub v2.st.nodes.length vb, .slice uc v2.st.leases.length vc]
     have b99 := b87.below hb97 b87.lt
     have b100 := b88.below hb97 b88.lt
     have b101 := b89.below hb97 b89.lt
     have b102 := b90.below hb97 b90.lt
     have b103 := b91.below hb97 b91.lt
     have m104 := (m92.below hb97).more hb97.size
     have m105 := (m86.below hb97).more hb97.size
     have o106 := o93.below hb97
     have o107 := o94.below hb97
     have i108 := i95.below hb97
     have c109 := c96.trans (hb97.mono c96.size)
     clear b87 b88 b89 b90 b91 m92 m86 o93 o94 i95 c96 hb97
     go_upto_region 14 with (first | (refine wpList_store_new rfl _ _ _ rfl rfl 26 _ #[.int .i64 v2.st.rev, .slice ua v2.st.jobs.length va, .slice ub v2.st.nodes.length vb, .slice uc v2.st.leases.length vc] rfl state_size rfl (one_st4 _ _ _ _ _ _ _ _ _ _) ?_) | (refine wpList_load_blk_w (by rfl) _ _ rfl (g23) rfl _ _ b99 _ Tryz.underlying26 rfl state_size ?_) | (refine wpList_load_blk_w (by rfl) _ _ rfl (g31) rfl _ _ b100 _ Tryz.underlying43 rfl request_size ?_) | (refine wpList_load_blk_w (by rfl) _ _ rfl (k56) rfl _ _ b101 _ Tryz.underlying45 rfl rep_size ?_) | (refine wpList_load_blk_w (by rfl) _ _ rfl ((k56 + 1)) rfl _ #[.int .i64 (betw v.st v2.st).frm, .int .i64 (betw v.st v2.st).upto, .slice x36a (betw v.st v2.st).jobs.length y36a, .slice x36b (betw v.st v2.st).nodes.length y36b, .slice x36c (betw v.st v2.st).leases.length y36c, .slice x36d (betw v.st v2.st).gj.length y36d, .slice x36e (betw v.st v2.st).gn.length y36e, .slice x36f (betw v.st v2.st).gl.length y36f] b102 _ Tryz.underlying48 rfl delta_size ?_) | (refine wpList_load_blk_w (by rfl) _ _ rfl (g83) rfl _ _ b103 _ Tryz.underlying26 rfl state_size ?_) | (refine wpList_load_blk_w (by rfl) _ _ rfl (w84.heap.size) rfl _ _ b98 _ Tryz.underlying26 rfl state_size ?_))
     generalize w84.alloc _ = W110 at *
     generalize w84.heap.size = g111 at *
     have cl112 : W110.cell? ⟨k56, 0, none⟩ = some (Value.int .i64 ((0 : Nat) : Int)) := b101.cell 0
     go_wp2_with (first | (refine wpList_load_blk_w (by rfl) _ _ rfl (g23) rfl _ _ b99 _ Tryz.underlying26 rfl state_size ?_) | (refine wpList_load_blk_w (by rfl) _ _ rfl (g31) rfl _ _ b100 _ Tryz.underlying43 rfl request_size ?_) | (refine wpList_load_blk_w (by rfl) _ _ rfl (k56) rfl _ _ b101 _ Tryz.underlying45 rfl rep_size ?_) | (refine wpList_load_blk_w (by rfl) _ _ rfl ((k56 + 1)) rfl _ #[.int .i64 (betw v.st v2.st).frm, .int .i64 (betw v.st v2.st).upto, .slice x36a (betw v.st v2.st).jobs.length y36a, .slice x36b (betw v.st v2.st).nodes.length y36b, .slice x36c (betw v.st v2.st).leases.length y36c, .slice x36d (betw v.st v2.st).gj.length y36d, .slice x36e (betw v.st v2.st).gn.length y36e, .slice x36f (betw v.st v2.st).gl.length y36f] b102 _ Tryz.underlying48 rfl delta_size ?_) | (refine wpList_load_blk_w (by rfl) _ _ rfl (g83) rfl _ _ b103 _ Tryz.underlying26 rfl state_size ?_) | (refine wpList_load_blk_w (by rfl) _ _ rfl (g111) rfl _ _ b98 _ Tryz.underlying26 rfl state_size ?_))
     have HR := Lib.hid (same_any v2.st v2.st ua ub uc q61a q61b q61c va vb vc d61a d61b d61c _ m105 o107.m OK43.out.1.sz OK43.out.1.sz)
     rw [show decide (v2.st = v2.st) = true from decide_eq_true rfl] at HR
     clear cl112
     refine (HR.out).mono ?_
     rintro e w113 ⟨rfl, hb114⟩
     have b115 := b99.below hb114 b99.lt
     have b116 := b100.below hb114 b100.lt
     have b117 := b101.below hb114 b101.lt
     have b118 := b102.below hb114 b102.lt
     have b119 := b103.below hb114 b103.lt
     have b120 := b98.below hb114 b98.lt
     have m121 := (m104.below hb114).more hb114.size
     have m122 := (m105.below hb114).more hb114.size
     have o123 := o106.below hb114
     have o124 := o107.below hb114
     have i125 := i108.below hb114
     have c126 := c109.trans (hb114.mono c109.size)
     clear b99 b100 b101 b102 b103 b98 m104 m105 o106 o107 i108 c109 hb114
     go_upto_region 19 with (first | (refine wpList_load_blk_w (by rfl) _ _ rfl (g83) rfl _ _ b119 _ Tryz.underlying26 rfl state_size ?_) | (refine wpList_store_blk rfl _ _ _ rfl g23 rfl _ _ #[.int .i64 v2.st.rev, .slice q61a v2.st.jobs.length d61a, .slice q61b v2.st.nodes.length d61b, .slice q61c v2.st.leases.length d61c] b115 rfl state_size rfl (one_st4 _ _ _ _ _ _ _ _ _ _) ?_))
     have gx := growR w113 g23 #[.int .i64 v2.st.rev, .slice q61a v2.st.jobs.length d61a, .slice q61b v2.st.nodes.length d61b, .slice q61c v2.st.leases.length d61c]
     have cF := below_setRow c126 hkw #[.int .i64 v2.st.rev, .slice q61a v2.st.jobs.length d61a, .slice q61b v2.st.nodes.length d61b, .slice q61c v2.st.leases.length d61c]
     have bF := b115.setRow #[.int .i64 v2.st.rev, .slice q61a v2.st.jobs.length d61a, .slice q61b v2.st.nodes.length d61b, .slice q61c v2.st.leases.length d61c]
     have oF := o124.other gx b115 (by decide) (by decide) (by decide)
     obtain ⟨i1, i2, i3, i4, i5, i6, hiM⟩ := i125
     have iF : SvI (w113.setRow g23 #[.int .i64 v2.st.rev, .slice q61a v2.st.jobs.length d61a, .slice q61b v2.st.nodes.length d61b, .slice q61c v2.st.leases.length d61c]) g10 v2 := ⟨i1, i2, i3, i4, i5, i6, hiM.b.far_row (hiM.b.ne_ b115 (by decide)) _, hiM.own.other gx b115 (by decide) (by decide) (by decide)⟩
     generalize w113.setRow _ _ = wF at *
     go_wp2_with fail
     go_roundw
     case rel => exact ⟨k + 1, v2, q61a, q61b, q61c, d61a, d61b, d61c, by omega, by go_num, iF, OK43.out, cF, bF, .inr (oF.less (Nat.zero_le _))⟩
     case measure => simp [intOf]; omega
   ·obtain rfl : k = l1.length := by omega
    go_wp2_with fail
    go_ret
    exact ⟨rfl, cc⟩
 ·have HB := Lib.hid hE
  have hne : (((checkE s0 : Nat) : Int) != 0) = true := by rw [bne_iff_ne]; omega
  clear hE
  go_enter Tryz.func4, Tryz.ntmps4
  go_wp2_with fail
  generalize w.alloc _ = W3 at *
  refine (served_any _ (HT.out.below c2)).mono ?_
  rintro e w4 ⟨rfl, hb5⟩
  have b6 := b1.below hb5 b1.lt
  have c7 := c2.trans (hb5.mono c2.size)
  clear b1 c2 hb5
  go_wp2_with (first | (refine wpList_load_blk_w (by rfl) _ _ rfl (w.heap.size) rfl _ _ b6 _ Tryz.underlying26 rfl state_size ?_))
  refine (svNew_bad s0 pj0 pn0 pl0 cj0 cn0 cl0 _ ((HM0.out.below c7).more c7.size) HZ0.out (HT.out.below c7) HB.out).mono ?_
  rintro e w8 ⟨rfl, hb9⟩
  have b10 := b6.below hb9 b6.lt
  have c11 := c7.trans (hb9.mono c7.size)
  clear b6 c7 hb9
  go_wp2_with fail
  go_ret
  exact ⟨rfl, c11⟩
end Go.Proofs.YtaioadbenigdpaaGreatDoor.serveTold
