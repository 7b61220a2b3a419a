/-
  Several texts in one: RfF, RfG.
-/
import Derived.Test.YtibiankbmhdljabGreatDoorPgRefC
set_option linter.all false
set_option maxHeartbeats 16000000
set_option maxRecDepth 100000
namespace Go.Proofs.YtibiankbmhdljabGreatDoor
open Go.Proofs.Tryz
open Go.RowKit
theorem wwm (s : St) (p1 p2 p3 : Option Addr) (c1 c2 c3 : Nat) (w : World) (hm : StM w w.heap.size p1 p2 p3 s) (hlj : s.jobs.length <= 40) (hln : s.nodes.length <= 40) :
  Calls prog 86 #[.agg (stv s p1 p2 p3 c1 c2 c3), .int .i64 3] w fun e w' => e = .returned (.bool true) ∧ Below w.heap.size w w' := by
 have hb0 : Below w.heap.size w (w.alloc (.cells (stv s p1 p2 p3 c1 c2 c3) 35)) := (zri _ _).alloc (zra _) _
 have b0 := Blk.new w 35 (stv s p1 p2 p3 c1 c2 c3)
 have HM := zrj hm
 clear hm
 go_enter func86, ntmps86
 go_wp2_with fail
 generalize w.alloc _ = W0 at *
 have k1 := b0.cell 1
 go_wp2_with fail
 clear k1
 go_loopw [19] (fun i wr => ∃ k : Nat, k <= s.jobs.length ∧ i = .int .i64 k ∧ Blk wr w.heap.size 35 (stv s p1 p2 p3 c1 c2 c3) ∧ Below w.heap.size w wr) (fun i _ => s.jobs.length - (intOf i).toNat)
 case atStart => exact ⟨0, Nat.zero_le _, rfl, b0, hb0⟩
 case round =>
  obtain ⟨k, hk, rfl, bs, hbr⟩ := hrel
  clear b0 hb0
  by_cases hlt : k < s.jobs.length
  ·have hx : s.jobs[k]? = some s.jobs[k] := zrd hlt
   generalize s.jobs[k] = x at *
   obtain ⟨a, rfl, hab, _, hat⟩ := (HM.out.j.below hbr).at_ (k := k) (r := rowJ x) (by rw [zrg, hx]; rfl)
   have hbx : Below wr.heap.size wr (wr.alloc (.cells (rwJ x) 62)) := (zri _ _).alloc (zra _) _
   have hbr1 := hbr.trans (hbx.mono hbr.size)
   have bs1 := bs.below hbx bs.lt
   clear hx hab hbr hbx bs
   go_wp2_with (first | (refine uqb rfl _ _ rfl (a.add (k * 5)) rfl (rlJ x) _ hat underlying62 rfl uqp ?_) | (refine uqd rfl _ _ _ rfl rfl 62 _ (rwJ x) rfl uqp rfl (by simp [Value.oneCell']) ?_))
   go_roundw
   case rel => exact ⟨k + 1, by omega, by go_num, bs1, hbr1⟩
   case measure => simp [intOf]; omega
  ·obtain rfl : k = s.jobs.length := by omega
   have b0 := bs
   have hb0 := hbr
   clear bs hbr
   have k2 := b0.cell 2
   go_wp2_with fail
   clear k2
   obtain ⟨wo, rfl⟩ : ∃ wo : World, wo = wr := ⟨_, rfl⟩
   go_loopw [43] (fun i wr => ∃ k : Nat, k <= s.nodes.length ∧ i = .int .i64 k ∧ Blk wr w.heap.size 35 (stv s p1 p2 p3 c1 c2 c3) ∧ Below w.heap.size w wr) (fun i _ => s.nodes.length - (intOf i).toNat)
   case atStart => exact ⟨0, Nat.zero_le _, rfl, b0, hb0⟩
   case round =>
    obtain ⟨k, hk, rfl, bs, hbr⟩ := hrel
    clear b0 hb0
    by_cases hlt : k < s.nodes.length
    ·have hx : s.nodes[k]? = some s.nodes[k] := zrd hlt
     generalize s.nodes[k] = x at *
     obtain ⟨a, rfl, hab, _, hat⟩ := (HM.out.n.below hbr).at_ (k := k) (r := rowN x) (by rw [zrg, hx]; rfl)
     have hbx : Below wr.heap.size wr (wr.alloc (.cells (rwN x) 64)) := (zri _ _).alloc (zra _) _
     have hbr1 := hbr.trans (hbx.mono hbr.size)
     have bs1 := bs.below hbx bs.lt
     clear hx hab hbr hbx bs
     go_wp2_with (first | (refine uqb rfl _ _ rfl (a.add (k * 3)) rfl (rlN x) _ hat underlying64 rfl uqm ?_) | (refine uqd rfl _ _ _ rfl rfl 64 _ (rwN x) rfl uqm rfl (by simp [Value.oneCell']) ?_))
     go_roundw
     case rel => exact ⟨k + 1, by omega, by go_num, bs1, hbr1⟩
     case measure => simp [intOf]; omega
    ·obtain rfl : k = s.nodes.length := by omega
     have b0 := bs
     have hb0 := hbr
     clear bs hbr
     go_wp2_with fail
     go_ret
     exact ⟨rfl, hb0⟩
theorem uki {s : ByteArray} (h : uq9 s = true) : ux0 s = true := by
 unfold uq9 at h
 rw [Bool.and_eq_true] at h
 exact h.2
theorem ujm {s : ByteArray} (h : ux0 s = true) : (textB s.data.toList).length <= 26 := by
 unfold ux0 at h
 rw [Bool.and_eq_true, decide_eq_true_eq] at h
 have h1 := ukr s
 have h2 := uqj s.data.toList.length (by omega)
 unfold textB
 rw [zrb]
 omega
theorem vyi (x : JobD) (w : World) (h : jobE x = 0) :
  Calls prog 175 #[.agg (rwJ x), .int .i64 3] w fun e w' => e = .returned (.string (bstr (encJ 3 x))) ∧ Below w.heap.size w w' := by
 have hb0 : Below w.heap.size w (w.alloc (.cells (rwJ x) 62)) := (zri _ _).alloc (zra _) _
 have b0 := Blk.new w 62 (rwJ x)
 obtain ⟨⟨e1, e2⟩, e3, e4, e5⟩ := uv4.1 h
 replace e1 := uki e1
 have hzz : 0 <= zigI x.prio ∧ zigI x.prio <= 4000 := by unfold zigI; split <;> omega
 have H2 := zrj (fun W => zigR_any x.prio W (by omega) (by omega))
 have hen : encJ 3 x = textB x.name.data.toList ++ (putN (zigI x.prio).toNat ++ (putN x.need.toNat ++ (putN x.tries.toNat ++ textB x.tag.data.toList))) := rfl
 obtain ⟨m, hmz⟩ := Int.eq_ofNat_of_zero_le hzz.1
 rw [hmz] at hen hzz H2
 have hmt : ((m : Int)).toNat = m := rfl
 rw [hmt] at hen
 have H1 := zrj (fun W => uwn x.name W e1)
 have H3 := zrj (fun W => vqt m W (by omega))
 have H4 := zrj (fun W => uy8 x.need W (by omega) (by omega))
 have H5 := zrj (fun W => uy8 x.tries W (by omega) (by omega))
 have H6 := zrj (fun W => uwn x.tag W e2)
 obtain ⟨A, hA⟩ : ∃ l, textB x.name.data.toList = l := ⟨_, rfl⟩
 have lA : A.length <= 26 := by rw [<- hA]; exact ujm e1
 obtain ⟨B, hB⟩ : ∃ l, putN m = l := ⟨_, rfl⟩
 have lB : B.length <= 10 := by rw [<- hB]; exact uqj _ (by omega)
 obtain ⟨C, hC⟩ : ∃ l, putN x.need.toNat = l := ⟨_, rfl⟩
 have lC : C.length <= 10 := by rw [<- hC]; exact uqj _ (by omega)
 obtain ⟨D, hD⟩ : ∃ l, putN x.tries.toNat = l := ⟨_, rfl⟩
 have lD : D.length <= 10 := by rw [<- hD]; exact uqj _ (by omega)
 obtain ⟨E, hE⟩ : ∃ l, textB x.tag.data.toList = l := ⟨_, rfl⟩
 have lE : E.length <= 26 := by rw [<- hE]; exact ujm e2
 obtain ⟨S1, hS1⟩ : ∃ l, A ++ B = l := ⟨_, rfl⟩
 have lS1 : S1.length <= 36 := by rw [<- hS1, zrb]; omega
 have a1 : ∀ W, (Op.stringOp .add (bstr A) (bstr B)).run prog W = .ok (.string (bstr S1)) W := fun W => by rw [<- hS1]; exact uxu _ _ (by omega) W
 obtain ⟨S2, hS2⟩ : ∃ l, S1 ++ C = l := ⟨_, rfl⟩
 have lS2 : S2.length <= 46 := by rw [<- hS2, zrb]; omega
 have a2 : ∀ W, (Op.stringOp .add (bstr S1) (bstr C)).run prog W = .ok (.string (bstr S2)) W := fun W => by rw [<- hS2]; exact uxu _ _ (by omega) W
 obtain ⟨S3, hS3⟩ : ∃ l, S2 ++ D = l := ⟨_, rfl⟩
 have lS3 : S3.length <= 56 := by rw [<- hS3, zrb]; omega
 have a3 : ∀ W, (Op.stringOp .add (bstr S2) (bstr D)).run prog W = .ok (.string (bstr S3)) W := fun W => by rw [<- hS3]; exact uxu _ _ (by omega) W
 obtain ⟨S4, hS4⟩ : ∃ l, S3 ++ E = l := ⟨_, rfl⟩
 have lS4 : S4.length <= 82 := by rw [<- hS4, zrb]; omega
 have a4 : ∀ W, (Op.stringOp .add (bstr S3) (bstr E)).run prog W = .ok (.string (bstr S4)) W := fun W => by rw [<- hS4]; exact uxu _ _ (by omega) W
 have HE := zrj (show encJ 3 x = S4 from by rw [<- hS4, <- hS3, <- hS2, <- hS1, <- hA, <- hB, <- hC, <- hD, <- hE]; simp [hen, zrh])
 rw [hA] at H1
 rw [hB] at H3
 rw [hC] at H4
 rw [hD] at H5
 rw [hE] at H6
 clear hen h e1 e2 e3 e4 e5 hzz hmz hmt hA hB hC hD hE hS1 hS2 hS3 hS4 lA lB lC lD lE lS1 lS2 lS3 lS4
 go_enter func175, ntmps175
 go_wp2_with fail
 generalize w.alloc _ = W at *
 refine wp_region_held_drew (S := fun w' => w'.cell? ⟨w.heap.size, 0, none⟩ = some (Value.string x.name) ∧ w'.cell? ⟨w.heap.size, 1, none⟩ = some (Value.int .i64 x.prio) ∧ w'.cell? ⟨w.heap.size, 2, none⟩ = some (Value.int .i64 x.need)) (by kernel_rfl) ⟨b0.cell 0, b0.cell 1, b0.cell 2⟩ (fun hHeld => ?_)
 have b1 : Blk W.drew w.heap.size 62 (rwJ x) := b0.drew
 refine tq 0 ?_
 refine tq 1 ?_
 refine tq 3 ?_
 refine tq 4 ?_
 refine tq 8 ?_
 refine tq 9 ?_
 refine tr 2 rfl (fun K hK => ?_)
 go_simp
 refine (H1.out _).mono ?_
 rintro e w2 ⟨rfl, hb2⟩
 have b2 := b1.below hb2 b1.lt
 refine hK.out _ _ (⟨b2.cell 0, b2.cell 1, b2.cell 2⟩) (fun hHeld => ?_)
 clear hK K
 (try simp only [Act.put, ma, mb, mc, md, me, mf])
 refine tr 5 rfl (fun K hK => ?_)
 go_simp
 refine (H2.out _).mono ?_
 rintro e w3 ⟨rfl, rfl⟩
 refine hK.out _ _ (⟨b2.cell 0, b2.cell 1, b2.cell 2⟩) (fun hHeld => ?_)
 clear hK K
 (try simp only [Act.put, ma, mb, mc, md, me, mf])
 refine tr 6 rfl (fun K hK => ?_)
 go_simp
 refine (H3.out _).mono ?_
 rintro e w4 ⟨rfl, hb4⟩
 have b4 := b2.below hb4 b2.lt
 refine hK.out _ _ (⟨b4.cell 0, b4.cell 1, b4.cell 2⟩) (fun hHeld => ?_)
 clear hK K
 (try simp only [Act.put, ma, mb, mc, md, me, mf])
 refine tq 7 ?_
 refine tr 10 rfl (fun K hK => ?_)
 go_simp
 refine (H4.out _).mono ?_
 rintro e w5 ⟨rfl, hb5⟩
 have b5 := b4.below hb5 b4.lt
 refine hK.out _ _ (⟨b5.cell 0, b5.cell 1, b5.cell 2⟩) (fun hHeld => ?_)
 clear hK K
 (try simp only [Act.put, ma, mb, mc, md, me, mf])
 refine tq 11 ?_
 refine tq 12 ?_
 refine wpAnyH_done (by kernel_rfl) ?_ _
 clear hHeld
 have hB := bthen (bthen (bthen hb0.drew hb2) hb4) hb5
 clear hb0 hb2 hb4 hb5
 have k3 := b5.cell 3
 go_wp2_with fail
 refine (H5.out _).mono ?_
 rintro e w6 ⟨rfl, hb6⟩
 have b6 := b5.below hb6 b5.lt
 have k4 := b6.cell 4
 clear k3 b5
 go_wp2_with fail
 refine (H6.out _).mono ?_
 rintro e w7 ⟨rfl, hb7⟩
 go_wp2_with fail
 go_ret
 exact ⟨by rw [HE.out]; rfl, bthen (bthen hB hb6) hb7⟩
theorem vvk (x : NodeD) (w : World) (h : nodeE x = 0) :
  Calls prog 176 #[.agg (rwN x), .int .i64 3] w fun e w' => e = .returned (.string (bstr (encN 3 x))) ∧ Below w.heap.size w w' := by
 have hb0 : Below w.heap.size w (w.alloc (.cells (rwN x) 64)) := (zri _ _).alloc (zra _) _
 have b0 := Blk.new w 64 (rwN x)
 obtain ⟨⟨e1, e2⟩, e3, e4⟩ := uji.1 h
 replace e1 := uki e1
 have hen : encN 3 x = textB x.name.data.toList ++ (putN x.room.toNat ++ textB x.zone.data.toList) := rfl
 have H1 := zrj (fun W => uwn x.name W e1)
 have H4 := zrj (fun W => uy8 x.room W (by omega) (by omega))
 have H6 := zrj (fun W => uwn x.zone W e2)
 obtain ⟨A, hA⟩ : ∃ l, textB x.name.data.toList = l := ⟨_, rfl⟩
 have lA : A.length <= 26 := by rw [<- hA]; exact ujm e1
 obtain ⟨B, hB⟩ : ∃ l, putN x.room.toNat = l := ⟨_, rfl⟩
 have lB : B.length <= 10 := by rw [<- hB]; exact uqj _ (by omega)
 obtain ⟨C, hC⟩ : ∃ l, textB x.zone.data.toList = l := ⟨_, rfl⟩
 have lC : C.length <= 26 := by rw [<- hC]; exact ujm e2
 obtain ⟨S1, hS1⟩ : ∃ l, A ++ B = l := ⟨_, rfl⟩
 have lS1 : S1.length <= 36 := by rw [<- hS1, zrb]; omega
 have a1 : ∀ W, (Op.stringOp .add (bstr A) (bstr B)).run prog W = .ok (.string (bstr S1)) W := fun W => by rw [<- hS1]; exact uxu _ _ (by omega) W
 obtain ⟨S2, hS2⟩ : ∃ l, S1 ++ C = l := ⟨_, rfl⟩
 have lS2 : S2.length <= 62 := by rw [<- hS2, zrb]; omega
 have a2 : ∀ W, (Op.stringOp .add (bstr S1) (bstr C)).run prog W = .ok (.string (bstr S2)) W := fun W => by rw [<- hS2]; exact uxu _ _ (by omega) W
 have HE := zrj (show encN 3 x = S2 from by rw [<- hS2, <- hS1, <- hA, <- hB, <- hC]; simp [hen, zrh])
 rw [hA] at H1
 rw [hB] at H4
 rw [hC] at H6
 clear hen h e1 e2 e3 e4 hA hB hC hS1 hS2 lA lB lC lS1 lS2
 go_enter func176, ntmps176
 go_wp2_with fail
 generalize w.alloc _ = W at *
 refine wp_region_held_drew (S := fun w' => w'.cell? ⟨w.heap.size, 0, none⟩ = some (Value.string x.name) ∧ w'.cell? ⟨w.heap.size, 1, none⟩ = some (Value.int .i64 x.room)) (by kernel_rfl) ⟨b0.cell 0, b0.cell 1⟩ (fun hHeld => ?_)
 have b1 : Blk W.drew w.heap.size 64 (rwN x) := b0.drew
 refine tq 0 ?_
 refine tq 1 ?_
 refine tq 3 ?_
 refine tq 4 ?_
 refine tr 2 rfl (fun K hK => ?_)
 go_simp
 refine (H1.out _).mono ?_
 rintro e w2 ⟨rfl, hb2⟩
 have b2 := b1.below hb2 b1.lt
 refine hK.out _ _ (⟨b2.cell 0, b2.cell 1⟩) (fun hHeld => ?_)
 clear hK K
 (try simp only [Act.put, ma, mb, mc, md, me, mf])
 refine tr 5 rfl (fun K hK => ?_)
 go_simp
 refine (H4.out _).mono ?_
 rintro e w5 ⟨rfl, hb5⟩
 have b5 := b2.below hb5 b2.lt
 refine hK.out _ _ (⟨b5.cell 0, b5.cell 1⟩) (fun hHeld => ?_)
 clear hK K
 (try simp only [Act.put, ma, mb, mc, md, me, mf])
 refine tq 6 ?_
 refine tq 7 ?_
 refine wpAnyH_done (by kernel_rfl) ?_ _
 clear hHeld
 have hB := bthen (bthen hb0.drew hb2) hb5
 clear hb0 hb2 hb5
 have k3 := b5.cell 2
 go_wp2_with fail
 refine (H6.out _).mono ?_
 rintro e w7 ⟨rfl, hb7⟩
 go_wp2_with fail
 go_ret
 exact ⟨by rw [HE.out]; rfl, bthen hB hb7⟩
theorem vke (x : uqf) (w : World) (e1 : ux0 x.job = true) (e2 : ux0 x.node = true) (e3 : 0 <= x.till ∧ x.till <= 1099511627776) :
  Calls prog 177 #[.agg (rwL x)] w fun e w' => e = .returned (.string (bstr (encL x))) ∧ Below w.heap.size w w' := by
 have hb0 : Below w.heap.size w (w.alloc (.cells (rwL x) 66)) := (zri _ _).alloc (zra _) _
 have b0 := Blk.new w 66 (rwL x)
 have hen : encL x = textB x.job.data.toList ++ (textB x.node.data.toList ++ putN x.till.toNat) := rfl
 have H1 := zrj (fun W => uwn x.job W e1)
 have H4 := zrj (fun W => uwn x.node W e2)
 have H6 := zrj (fun W => uy8 x.till W (by omega) (by omega))
 obtain ⟨A, hA⟩ : ∃ l, textB x.job.data.toList = l := ⟨_, rfl⟩
 have lA : A.length <= 26 := by rw [<- hA]; exact ujm e1
 obtain ⟨B, hB⟩ : ∃ l, textB x.node.data.toList = l := ⟨_, rfl⟩
 have lB : B.length <= 26 := by rw [<- hB]; exact ujm e2
 obtain ⟨C, hC⟩ : ∃ l, putN x.till.toNat = l := ⟨_, rfl⟩
 have lC : C.length <= 10 := by rw [<- hC]; exact uqj _ (by omega)
 obtain ⟨S1, hS1⟩ : ∃ l, A ++ B = l := ⟨_, rfl⟩
 have lS1 : S1.length <= 52 := by rw [<- hS1, zrb]; omega
 have a1 : ∀ W, (Op.stringOp .add (bstr A) (bstr B)).run prog W = .ok (.string (bstr S1)) W := fun W => by rw [<- hS1]; exact uxu _ _ (by omega) W
 obtain ⟨S2, hS2⟩ : ∃ l, S1 ++ C = l := ⟨_, rfl⟩
 have lS2 : S2.length <= 62 := by rw [<- hS2, zrb]; omega
 have a2 : ∀ W, (Op.stringOp .add (bstr S1) (bstr C)).run prog W = .ok (.string (bstr S2)) W := fun W => by rw [<- hS2]; exact uxu _ _ (by omega) W
 have HE := zrj (show encL x = S2 from by rw [<- hS2, <- hS1, <- hA, <- hB, <- hC]; simp [hen, zrh])
 rw [hA] at H1
 rw [hB] at H4
 rw [hC] at H6
 clear hen e1 e2 e3 hA hB hC hS1 hS2 lA lB lC lS1 lS2
 go_enter func177, ntmps177
 go_wp2_with fail
 generalize w.alloc _ = W at *
 refine wp_region_held_drew (S := fun w' => w'.cell? ⟨w.heap.size, 0, none⟩ = some (Value.string x.job) ∧ w'.cell? ⟨w.heap.size, 1, none⟩ = some (Value.string x.node) ∧ w'.cell? ⟨w.heap.size, 2, none⟩ = some (Value.int .i64 x.till)) (by kernel_rfl) ⟨b0.cell 0, b0.cell 1, b0.cell 2⟩ (fun hHeld => ?_)
 have b1 : Blk W.drew w.heap.size 66 (rwL x) := b0.drew
 refine tq 0 ?_
 refine tq 1 ?_
 refine tq 3 ?_
 refine tq 4 ?_
 refine tq 7 ?_
 refine tq 8 ?_
 refine tr 2 rfl (fun K hK => ?_)
 go_simp
 refine (H1.out _).mono ?_
 rintro e w2 ⟨rfl, hb2⟩
 have b2 := b1.below hb2 b1.lt
 refine hK.out _ _ (⟨b2.cell 0, b2.cell 1, b2.cell 2⟩) (fun hHeld => ?_)
 clear hK K
 (try simp only [Act.put, ma, mb, mc, md, me, mf])
 refine tr 5 rfl (fun K hK => ?_)
 go_simp
 refine (H4.out _).mono ?_
 rintro e w5 ⟨rfl, hb5⟩
 have b5 := b2.below hb5 b2.lt
 refine hK.out _ _ (⟨b5.cell 0, b5.cell 1, b5.cell 2⟩) (fun hHeld => ?_)
 clear hK K
 (try simp only [Act.put, ma, mb, mc, md, me, mf])
 refine tq 6 ?_
 refine tr 9 rfl (fun K hK => ?_)
 go_simp
 refine (H6.out _).mono ?_
 rintro e w6 ⟨rfl, hb6⟩
 have b6 := b5.below hb6 b5.lt
 refine hK.out _ _ (⟨b6.cell 0, b6.cell 1, b6.cell 2⟩) (fun hHeld => ?_)
 clear hK K
 (try simp only [Act.put, ma, mb, mc, md, me, mf])
 refine tq 10 ?_
 refine tq 11 ?_
 refine wpAnyH_done (by kernel_rfl) ?_ _
 clear hHeld
 have hB := bthen (bthen (bthen hb0.drew hb2) hb5) hb6
 go_wp2_with fail
 go_ret
 exact ⟨by rw [HE.out]; rfl, hB⟩
theorem vkk (n : Nat) (w : World) (h : n < 9223372036854775808) : Calls prog 141 #[.int .i64 (n : Int)] w fun e w' => e = .returned (.string (bstr (putN n))) ∧ Below w.heap.size w w' := uy8 n w (by omega) (by omega)
theorem encJ_82 {x : JobD} (h : jobE x = 0) : (encJ 3 x).length <= 82 := by
 obtain ⟨⟨e1, e2⟩, e3, e4, e5⟩ := uv4.1 h
 have h1 := ujm (uki e1)
 have h2 := ujm e2
 have hzz : 0 <= zigI x.prio ∧ zigI x.prio <= 4000 := by unfold zigI; split <;> omega
 have h3 := uqj (zigI x.prio).toNat (by omega)
 have h4 := uqj x.need.toNat (by omega)
 have h5 := uqj x.tries.toNat (by omega)
 rw [show encJ 3 x = textB x.name.data.toList ++ (putN (zigI x.prio).toNat ++ (putN x.need.toNat ++ (putN x.tries.toNat ++ textB x.tag.data.toList))) from rfl]
 simp only [zrb]
 omega
theorem encN_62 {x : NodeD} (h : nodeE x = 0) : (encN 3 x).length <= 62 := by
 obtain ⟨⟨e1, e2⟩, e3, e4⟩ := uji.1 h
 have h1 := ujm (uki e1)
 have h2 := ujm e2
 have h4 := uqj x.room.toNat (by omega)
 rw [show encN 3 x = textB x.name.data.toList ++ (putN x.room.toNat ++ textB x.zone.data.toList) from rfl]
 simp only [zrb]
 omega
theorem xx9 {s : St} (F : Fine s) {x : uqf} (h : ux5 s.jobs s.nodes x = 0) : ux0 x.job = true ∧ ux0 x.node = true ∧ 0 <= x.till ∧ x.till <= 1099511627776 := by
 obtain ⟨⟨j, hj⟩, ⟨n, hn⟩, h1, h2⟩ := uwz h
 obtain ⟨m1, k1⟩ := vj9 hj
 obtain ⟨m2, k2⟩ := vx4 hn
 have t1 := uki (uv4.1 (F.j j m1)).1.1
 have t2 := uki (uji.1 (F.n n m2)).1.1
 rw [k1] at t1
 rw [k2] at t2
 exact ⟨t1, t2, h1, h2⟩
theorem encL_62 {x : uqf} (t1 : ux0 x.job = true) (t2 : ux0 x.node = true) (h : 0 <= x.till ∧ x.till <= 1099511627776) : (encL x).length <= 62 := by
 have h1 := ujm t1
 have h2 := ujm t2
 have h4 := uqj x.till.toNat (by omega)
 rw [show encL x = textB x.job.data.toList ++ (textB x.node.data.toList ++ putN x.till.toNat) from rfl]
 simp only [zrb]
 omega
theorem vvl (s : St) (p1 p2 p3 : Option Addr) (c1 c2 c3 : Nat) (w : World) (hm : StM w w.heap.size p1 p2 p3 s) (F : Fine s) :
  Calls prog 140 #[.slice p1 s.jobs.length c1, .slice p2 s.nodes.length c2, .slice p3 s.leases.length c3, .int .i64 3] w fun e w' => e = .returned (.string (bstr ((rowsB (encJ 3) s.jobs ++ rowsB (encN 3) s.nodes) ++ rowsB encL s.leases))) ∧ Below w.heap.size w w' ∧ ((rowsB (encJ 3) s.jobs ++ rowsB (encN 3) s.nodes) ++ rowsB encL s.leases).length <= 9000 := by
 have nj := F.nj
 have nn := F.nn
 have nl := F.nl
 have HM := zrj hm
 have HF := zrj F
 have hp : (putN s.jobs.length).length <= 10 := uqj _ (by omega)
 have HN := zrj (fun W => vkk s.jobs.length W (by omega))
 clear hm F
 go_enter func140, ntmps140
 go_wp2_with fail
 refine (HN.out _).mono ?_
 rintro e w0 ⟨rfl, hb0⟩
 clear HN
 go_wp2_with fail
 go_loopw [9, 21] (fun q i wr => ∃ (k : Nat) (cur : List UInt8), k <= s.jobs.length ∧ i = .int .i64 k ∧ q = .string (bstr cur) ∧ cur.length <= 10 + 82 * k ∧ Hid (rowsB (encJ 3) s.jobs = cur ++ (s.jobs.drop k).flatMap (encJ 3)) ∧ Below w.heap.size w wr) (fun _ i _ => s.jobs.length - (intOf i).toNat)
 case atStart => exact ⟨0, putN s.jobs.length, Nat.zero_le _, rfl, rfl, by omega, (show _ = _ from rfl), hb0⟩
 case round =>
  obtain ⟨k, cur, hk, rfl, rfl, hlen, HC, hbr⟩ := hrel
  clear hb0
  by_cases hlt : k < s.jobs.length
  ·have hx : s.jobs[k]? = some s.jobs[k] := zrd hlt
   have hxo := HF.out.j s.jobs[k] (List.getElem_mem hlt)
   have hC := HC.out
   rw [uvn s.jobs k _ hx, List.flatMap_cons, <- zrh] at hC
   generalize s.jobs[k] = x at *
   obtain ⟨a, rfl, hab, _, hat⟩ := (HM.out.j.below hbr).at_ (k := k) (r := rowJ x) (by rw [zrg, hx]; rfl)
   have hbx : Below wr.heap.size wr (wr.alloc (.cells (rwJ x) 62)) := (zri _ _).alloc (zra _) _
   have bx := Blk.new wr 62 (rwJ x)
   have hbr1 := hbr.trans (hbx.mono hbr.size)
   have hel := encJ_82 hxo
   have HB := zrj (fun W => vyi x W hxo)
   have ha : ∀ W, (Op.stringOp .add (bstr cur) (bstr ((encJ 3) x))).run prog W = .ok (.string (bstr (cur ++ (encJ 3) x))) W := fun W => uxu cur ((encJ 3) x) (by omega) W
   have hl2 : (cur ++ (encJ 3) x).length <= 10 + 82 * (k + 1) := by rw [zrb]; omega
   generalize cur ++ (encJ 3) x = c2 at *
   have HX := zrj hC
   clear hx hab hbr hC HC hbx hel hxo
   go_upto_region 5 with (first | (refine uqb rfl _ _ rfl (a.add (k * 5)) rfl (rlJ x) _ hat underlying62 rfl uqp ?_) | (refine uqd rfl _ _ _ rfl rfl 62 _ (rwJ x) rfl uqp rfl (by simp [Value.oneCell']) ?_))
   generalize wr.alloc _ = W1 at *
   generalize wr.heap.size = gx at *
   clear hat
   go_wp2_with (first | (refine uqn (by rfl) _ _ rfl gx rfl _ _ bx _ underlying62 rfl uqp ?_))
   refine (HB.out _).mono ?_
   rintro e w2 ⟨rfl, hb2⟩
   have hbr2 := hbr1.trans (hb2.mono hbr1.size)
   clear hbr1 hb2 bx HB
   go_wp2_with fail
   go_roundw
   case rel => exact ⟨k + 1, c2, by omega, by go_num, rfl, hl2, HX, hbr2⟩
   case measure => simp [intOf]; omega
  ·obtain rfl : k = s.jobs.length := by omega
   have hC := HC.out
   rw [List.drop_length, List.flatMap_nil, List.append_nil] at hC
   have hb0 := hbr
   clear hbr HC
   have hp : (putN s.nodes.length).length <= 10 := uqj _ (by omega)
   have HN := zrj (fun W => vkk s.nodes.length W (by omega))
   have ha : ∀ W, (Op.stringOp .add (bstr cur) (bstr (putN s.nodes.length))).run prog W = .ok (.string (bstr (cur ++ putN s.nodes.length))) W := fun W => uxu cur (putN s.nodes.length) (by omega) W
   have hl2 : (cur ++ putN s.nodes.length).length <= 3310 := by rw [zrb]; omega
   have HD := zrj (show rowsB (encJ 3) s.jobs ++ rowsB (encN 3) s.nodes = (cur ++ putN s.nodes.length) ++ (s.nodes.drop 0).flatMap (encN 3) from by rw [hC, zrh]; rfl)
   generalize cur ++ putN s.nodes.length = c1 at *
   clear hC hlen hp
   go_wp2_with fail
   refine (HN.out _).mono ?_
   rintro e wn1 ⟨rfl, hb1⟩
   have hb2 := hb0.trans (hb1.mono hb0.size)
   clear hb0 hb1 HN
   have hb0 := hb2
   clear hb2
   go_wp2_with fail
   clear ha
   obtain ⟨wo1, rfl⟩ : ∃ wo : World, wo = wr := ⟨_, rfl⟩
   go_loopw [9, 38] (fun q i wr => ∃ (k : Nat) (cur : List UInt8), k <= s.nodes.length ∧ i = .int .i64 k ∧ q = .string (bstr cur) ∧ cur.length <= 3310 + 62 * k ∧ Hid (rowsB (encJ 3) s.jobs ++ rowsB (encN 3) s.nodes = cur ++ (s.nodes.drop k).flatMap (encN 3)) ∧ Below w.heap.size w wr) (fun _ i _ => s.nodes.length - (intOf i).toNat)
   case atStart => exact ⟨0, c1, Nat.zero_le _, rfl, rfl, by omega, HD, hb0⟩
   case round =>
    obtain ⟨k, cur, hk, rfl, rfl, hlen, HC, hbr⟩ := hrel
    clear hb0
    by_cases hlt : k < s.nodes.length
    ·have hx : s.nodes[k]? = some s.nodes[k] := zrd hlt
     have hxo := HF.out.n s.nodes[k] (List.getElem_mem hlt)
     have hC := HC.out
     rw [uvn s.nodes k _ hx, List.flatMap_cons, <- zrh] at hC
     generalize s.nodes[k] = x at *
     obtain ⟨a, rfl, hab, _, hat⟩ := (HM.out.n.below hbr).at_ (k := k) (r := rowN x) (by rw [zrg, hx]; rfl)
     have hbx : Below wr.heap.size wr (wr.alloc (.cells (rwN x) 64)) := (zri _ _).alloc (zra _) _
     have bx := Blk.new wr 64 (rwN x)
     have hbr1 := hbr.trans (hbx.mono hbr.size)
     have hel := encN_62 hxo
     have HB := zrj (fun W => vvk x W hxo)
     have ha : ∀ W, (Op.stringOp .add (bstr cur) (bstr ((encN 3) x))).run prog W = .ok (.string (bstr (cur ++ (encN 3) x))) W := fun W => uxu cur ((encN 3) x) (by omega) W
     have hl2 : (cur ++ (encN 3) x).length <= 3310 + 62 * (k + 1) := by rw [zrb]; omega
     generalize cur ++ (encN 3) x = c2 at *
     have HX := zrj hC
     clear hx hab hbr hC HC hbx hel hxo
     go_upto_region 11 with (first | (refine uqb rfl _ _ rfl (a.add (k * 3)) rfl (rlN x) _ hat underlying64 rfl uqm ?_) | (refine uqd rfl _ _ _ rfl rfl 64 _ (rwN x) rfl uqm rfl (by simp [Value.oneCell']) ?_))
     generalize wr.alloc _ = W1 at *
     generalize wr.heap.size = gx at *
     clear hat
     go_wp2_with (first | (refine uqn (by rfl) _ _ rfl gx rfl _ _ bx _ underlying64 rfl uqm ?_))
     refine (HB.out _).mono ?_
     rintro e w2 ⟨rfl, hb2⟩
     have hbr2 := hbr1.trans (hb2.mono hbr1.size)
     clear hbr1 hb2 bx HB
     go_wp2_with fail
     go_roundw
     case rel => exact ⟨k + 1, c2, by omega, by go_num, rfl, hl2, HX, hbr2⟩
     case measure => simp [intOf]; omega
    ·obtain rfl : k = s.nodes.length := by omega
     have hC := HC.out
     rw [List.drop_length, List.flatMap_nil, List.append_nil] at hC
     have hb0 := hbr
     clear hbr HC
     have hp : (putN s.leases.length).length <= 10 := uqj _ (by omega)
     have HN := zrj (fun W => vkk s.leases.length W (by omega))
     have ha : ∀ W, (Op.stringOp .add (bstr cur) (bstr (putN s.leases.length))).run prog W = .ok (.string (bstr (cur ++ putN s.leases.length))) W := fun W => uxu cur (putN s.leases.length) (by omega) W
     have hl2 : (cur ++ putN s.leases.length).length <= 4570 := by rw [zrb]; omega
     have HD := zrj (show rowsB (encJ 3) s.jobs ++ rowsB (encN 3) s.nodes ++ rowsB encL s.leases = (cur ++ putN s.leases.length) ++ (s.leases.drop 0).flatMap encL from by rw [hC, zrh]; rfl)
     generalize cur ++ putN s.leases.length = c1 at *
     clear hC hlen hp
     go_wp2_with fail
     refine (HN.out _).mono ?_
     rintro e wn2 ⟨rfl, hb1⟩
     have hb2 := hb0.trans (hb1.mono hb0.size)
     clear hb0 hb1 HN
     have hb0 := hb2
     clear hb2
     go_wp2_with fail
     clear ha
     obtain ⟨wo2, rfl⟩ : ∃ wo : World, wo = wr := ⟨_, rfl⟩
     go_loopw [9, 55] (fun q i wr => ∃ (k : Nat) (cur : List UInt8), k <= s.leases.length ∧ i = .int .i64 k ∧ q = .string (bstr cur) ∧ cur.length <= 4570 + 62 * k ∧ Hid ((rowsB (encJ 3) s.jobs ++ rowsB (encN 3) s.nodes) ++ rowsB encL s.leases = cur ++ (s.leases.drop k).flatMap encL) ∧ Below w.heap.size w wr) (fun _ i _ => s.leases.length - (intOf i).toNat)
     case atStart => exact ⟨0, c1, Nat.zero_le _, rfl, rfl, by omega, HD, hb0⟩
     case round =>
      obtain ⟨k, cur, hk, rfl, rfl, hlen, HC, hbr⟩ := hrel
      clear hb0
      by_cases hlt : k < s.leases.length
      ·have hx : s.leases[k]? = some s.leases[k] := zrd hlt
       have hxo := HF.out.l s.leases[k] (List.getElem_mem hlt)
       have hxl := xx9 HF.out hxo
       have hC := HC.out
       rw [uvn s.leases k _ hx, List.flatMap_cons, <- zrh] at hC
       generalize s.leases[k] = x at *
       obtain ⟨a, rfl, hab, _, hat⟩ := (HM.out.l.below hbr).at_ (k := k) (r := rowL x) (by rw [zrg, hx]; rfl)
       have hbx : Below wr.heap.size wr (wr.alloc (.cells (rwL x) 66)) := (zri _ _).alloc (zra _) _
       have bx := Blk.new wr 66 (rwL x)
       have hbr1 := hbr.trans (hbx.mono hbr.size)
       have hel := encL_62 hxl.1 hxl.2.1 hxl.2.2
       have HB := zrj (fun W => vke x W hxl.1 hxl.2.1 hxl.2.2)
       have ha : ∀ W, (Op.stringOp .add (bstr cur) (bstr (encL x))).run prog W = .ok (.string (bstr (cur ++ encL x))) W := fun W => uxu cur (encL x) (by omega) W
       have hl2 : (cur ++ encL x).length <= 4570 + 62 * (k + 1) := by rw [zrb]; omega
       generalize cur ++ encL x = c2 at *
       have HX := zrj hC
       clear hx hab hbr hC HC hbx hel hxo hxl
       go_upto_region 17 with (first | (refine uqb rfl _ _ rfl (a.add (k * 3)) rfl (rlL x) _ hat underlying66 rfl uqo ?_) | (refine uqd rfl _ _ _ rfl rfl 66 _ (rwL x) rfl uqo rfl (by simp [Value.oneCell']) ?_))
       generalize wr.alloc _ = W1 at *
       generalize wr.heap.size = gx at *
       clear hat
       go_wp2_with (first | (refine uqn (by rfl) _ _ rfl gx rfl _ _ bx _ underlying66 rfl uqo ?_))
       refine (HB.out _).mono ?_
       rintro e w2 ⟨rfl, hb2⟩
       have hbr2 := hbr1.trans (hb2.mono hbr1.size)
       clear hbr1 hb2 bx HB
       go_wp2_with fail
       go_roundw
       case rel => exact ⟨k + 1, c2, by omega, by go_num, rfl, hl2, HX, hbr2⟩
       case measure => simp [intOf]; omega
      ·obtain rfl : k = s.leases.length := by omega
       have hC := HC.out
       rw [List.drop_length, List.flatMap_nil, List.append_nil] at hC
       have hb0 := hbr
       clear hbr HC
       have HX := zrj hC
       clear hC
       go_wp2_with fail
       go_ret
       exact ⟨by rw [HX.out]; rfl, hb0, by rw [HX.out]; omega⟩
theorem wzg (s : St) (p1 p2 p3 : Option Addr) (c1 c2 c3 : Nat) (w : World) (hm : StM w w.heap.size p1 p2 p3 s) (F : Fine s) :
  Calls prog 87 #[.agg (stv s p1 p2 p3 c1 c2 c3), .int .i64 3] w fun e w' => e = .returned (.string (bstr (encS 3 s))) ∧ Below w.heap.size w w' := by
 have hb0 : Below w.heap.size w (w.alloc (.cells (stv s p1 p2 p3 c1 c2 c3) 35)) := (zri _ _).alloc (zra _) _
 have b0 := Blk.new w 35 (stv s p1 p2 p3 c1 c2 c3)
 have hrev := F.rev
 have hp : (putN s.rev.toNat).length <= 10 := uqj _ (by omega)
 have HR := zrj (fun (W : World) (hW : Below w.heap.size w W) => vvl s p1 p2 p3 c1 c2 c3 W ((hm.below hW).more hW.size) F)
 have HN := zrj (fun W => uy8 s.rev W (by omega) (by omega))
 have HE := zrj (show encS 3 s = putN s.rev.toNat ++ ((rowsB (encJ 3) s.jobs ++ rowsB (encN 3) s.nodes) ++ rowsB encL s.leases) from by rw [zrh]; rfl)
 clear hm F hrev
 generalize (rowsB (encJ 3) s.jobs ++ rowsB (encN 3) s.nodes) ++ rowsB encL s.leases = L at *
 go_enter func87, ntmps87
 go_wp2_with fail
 generalize w.alloc _ = W0 at *
 have k1 := b0.cell 1
 have k2 := b0.cell 2
 have k3 := b0.cell 3
 go_wp2_with fail
 refine (HR.out _ hb0).mono ?_
 rintro e w1 ⟨rfl, hb1, hL⟩
 have b1 := b0.below hb1 b0.lt
 have hB1 := hb0.trans (hb1.mono hb0.size)
 have k0 := b1.cell 0
 have ha : ∀ W, (Op.stringOp .add (bstr (putN s.rev.toNat)) (bstr L)).run prog W = .ok (.string (bstr (putN s.rev.toNat ++ L))) W := fun W => uxu _ _ (by omega) W
 generalize putN s.rev.toNat ++ L = L2 at *
 clear b0 hb0 hb1 k1 k2 k3 HR
 go_wp2_with fail
 refine (HN.out _).mono ?_
 rintro e w2 ⟨rfl, hb2⟩
 go_wp2_with fail
 go_ret
 exact ⟨by rw [HE.out]; rfl, bthen hB1 hb2⟩
theorem wq3 (s : St) (p1 p2 p3 : Option Addr) (c1 c2 c3 : Nat) (w : World) (hm : StM w w.heap.size p1 p2 p3 s) (hz : StSz s) :
  Calls prog 49 #[.agg (stv s p1 p2 p3 c1 c2 c3), .int .i64 3] w fun e w' => ∃ z : Int, ((z ≠ 0 ∧ e = .returned (.tuple #[.string .empty, .int .i64 z])) ∨ (uqq s = 0 ∧ z = 0 ∧ e = .returned (.tuple #[.string (bstr (encS 3 s)), .int .i64 0]))) ∧ Below w.heap.size w w' := by
 have hb0 : Below w.heap.size w (w.alloc (.cells (stv s p1 p2 p3 c1 c2 c3) 35)) := (zri _ _).alloc (zra _) _
 have b0 := Blk.new w 35 (stv s p1 p2 p3 c1 c2 c3)
 have HM := zrj hm
 have HC := zrj (fun (W : World) (hW : Below w.heap.size w W) => wzi s p1 p2 p3 c1 c2 c3 W ((hm.below hW).more hW.size) hz)
 have ho1 := fun W => uky (3 : Int) 1 3 W
 rw [show (decide ((3 : Int) < 1) || decide ((3 : Int) > 3)) = false from rfl] at ho1
 have HO := zrj ho1
 clear hm hz ho1
 go_enter func49, ntmps49
 go_wp2_with fail
 generalize w.alloc _ = W0 at *
 go_wp2_with (first | (refine uqn (by rfl) _ _ rfl w.heap.size rfl _ _ b0 _ underlying35 rfl uqg ?_))
 refine (HC.out _ hb0).mono ?_
 rintro e w1 ⟨z, rfl, hz0, hb1⟩
 have b1 := b0.below hb1 b0.lt
 have hB1 := hb0.trans (hb1.mono hb0.size)
 clear b0 hb0 hb1 HC
 by_cases h0 : z = 0
 rotate_left
 ·have hzb : (z != 0) = true := by rw [bne_iff_ne]; exact h0
  clear hz0
  go_wp2_with fail
  go_ret2
  exact ⟨z, .inl ⟨h0, rfl⟩, hB1⟩
 subst h0
 have HFi := zrj ((uxm s).1 (hz0 rfl))
 have HCE := zrj (hz0 rfl)
 clear hz0
 go_wp2_with fail
 refine (HO.out _).mono ?_
 rintro e w2 ⟨rfl, hb2⟩
 have b2 := b1.below hb2 b1.lt
 have hB2 := hB1.trans (hb2.mono hB1.size)
 have HFt := zrj (wwm s p1 p2 p3 c1 c2 c3 w2 ((HM.out.below hB2).more hB2.size) HFi.out.nj (zrc HFi.out.nn (by decide)))
 clear b1 hB1 hb2 HO
 go_wp2_with (first | (refine uqn (by rfl) _ _ rfl w.heap.size rfl _ _ b2 _ underlying35 rfl uqg ?_))
 refine HFt.out.mono ?_
 rintro e w3 ⟨rfl, hb3⟩
 have b3 := b2.below hb3 b2.lt
 have hB3 := hB2.trans (hb3.mono hB2.size)
 have HBy := zrj (wzg s p1 p2 p3 c1 c2 c3 w3 ((HM.out.below hB3).more hB3.size) HFi.out)
 clear b2 hB2 hb3 HFt
 go_wp2_with (first | (refine uqn (by rfl) _ _ rfl w.heap.size rfl _ _ b3 _ underlying35 rfl uqg ?_))
 refine HBy.out.mono ?_
 rintro e w4 ⟨rfl, hb4⟩
 go_wp2_with fail
 go_ret2
 exact ⟨0, .inr ⟨HCE.out, rfl, rfl⟩, bthen hB3 hb4⟩
theorem wwq (pl : List UInt8) (hp : 6000 < pl.length) (hp2 : pl.length <= 4611686018427387904) (w : World) :
  Calls prog 50 #[.agg #[.int .i64 (3 : Int), .int .i64 (1 : Int), .string (bstr pl)]] w fun e w' => e = .returned (.tuple #[.string .empty, .int .i64 2]) ∧ Below w.heap.size w w' := by
 have hb0 : Below w.heap.size w (w.alloc (.cells #[.int .i64 (3 : Int), .int .i64 (1 : Int), .string (bstr pl)] 44)) := (zri _ _).alloc (zra _) _
 have b0 := Blk.new w 44 #[.int .i64 (3 : Int), .int .i64 (1 : Int), .string (bstr pl)]
 have hz := uqw pl
 have ho1 := fun W => uky (3 : Int) 1 3 W
 have ho2 := fun W => uky (1 : Int) 1 4 W
 rw [show (decide ((3 : Int) < 1) || decide ((3 : Int) > 3)) = false from rfl] at ho1
 rw [show (decide ((1 : Int) < 1) || decide ((1 : Int) > 4)) = false from rfl] at ho2
 have HO1 := zrj ho1
 have HO2 := zrj ho2
 have hpl : (6000 : Int) < (pl.length : Int) := by omega
 clear ho1 ho2
 go_enter func50, ntmps50
 go_wp2_with fail
 generalize w.alloc _ = W at *
 have e0 := b0.cell 0
 go_wp2_with fail
 refine (HO1.out _).mono ?_
 rintro e w1 ⟨rfl, hb1⟩
 have b1 := b0.below hb1 b0.lt
 have hB1 := bthen hb0 hb1
 have e1 := b1.cell 1
 clear e0 b0 hb0 hb1
 go_wp2_with fail
 refine (HO2.out _).mono ?_
 rintro e w2 ⟨rfl, hb2⟩
 have b2 := b1.below hb2 b1.lt
 have hB2 := bthen hB1 hb2
 have e2 := b2.cell 2
 clear e1 b1 hB1 hb2 HO1 HO2
 go_wp2_with fail
 go_ret2
 exact ⟨rfl, hB2⟩
theorem vkz (s : St) (p1 p2 p3 : Option Addr) (c1 c2 c3 : Nat) (w : World) (hm : StM w w.heap.size p1 p2 p3 s) (hz : StSz s) :
  Calls prog 16 #[.agg (stv s p1 p2 p3 c1 c2 c3), .int .i64 3] w fun e w' => ((∃ z : Int, z ≠ 0 ∧ e = .returned (.tuple #[.string .empty, .int .i64 z])) ∨ ((sfrR 3 s).2 = 0 ∧ e = .returned (.tuple #[.string (bstr (sfrR 3 s).1), .int .i64 0]))) ∧ Below w.heap.size w w' := by
 have hb0 : Below w.heap.size w (w.alloc (.cells (stv s p1 p2 p3 c1 c2 c3) 35)) := (zri _ _).alloc (zra _) _
 have b0 := Blk.new w 35 (stv s p1 p2 p3 c1 c2 c3)
 have HC := zrj (fun (W : World) (hW : Below w.heap.size w W) => wq3 s p1 p2 p3 c1 c2 c3 W ((hm.below hW).more hW.size) hz)
 have hzf := uzg
 clear hm hz
 go_enter func16, ntmps16
 go_wp2_with fail
 generalize w.alloc _ = W0 at *
 go_wp2_with (first | (refine uqn (by rfl) _ _ rfl w.heap.size rfl _ _ b0 _ underlying35 rfl uqg ?_))
 refine (HC.out _ hb0).mono ?_
 rintro e w1 ⟨z, ⟨hz1, rfl⟩ | ⟨hc, rfl, rfl⟩, hb1⟩
 ·have hzb : (z != 0) = true := by rw [bne_iff_ne]; exact hz1
  go_wp2_with fail
  go_ret2
  exact ⟨.inl ⟨z, hz1, rfl⟩, bthen hb0 hb1⟩
 have hen := vvv hc
 have hB1 := bthen hb0 hb1
 have hl3 := wq2 hc
 have hsf : sfrR 3 s = encF 3 1 (encS 3 s) := by unfold sfrR; rw [hen]; rfl
 have hgf : goodF 3 1 := by decide
 unfold encF at hsf
 rw [if_pos hgf] at hsf
 by_cases hbig : 6000 < (encS 3 s).length
 ·have HG := zrj (wwq (encS 3 s) hbig (by omega) w1)
  clear hsf hbig hen hc b0 hb0 hb1 HC hl3
  generalize bstr (encS 3 s) = pb at *
  go_wp2_with fail
  refine HG.out.mono ?_
  rintro e w2 ⟨rfl, hb2⟩
  go_wp2_with fail
  go_ret2
  exact ⟨.inl ⟨2, by decide, rfl⟩, bthen hB1 hb2⟩
 ·rw [if_neg hbig] at hsf
  have HSF := zrj (show (sfrR 3 s).2 = 0 ∧ wireF 3 1 (encS 3 s) = (sfrR 3 s).1 from by rw [hsf]; exact ⟨rfl, rfl⟩)
  have hG := wz1 3 1 (encS 3 s) (by decide) (by decide) (by omega) w1
  rw [HSF.out.2] at hG
  have HG := zrj hG
  clear hG hsf hbig hen hc b0 hb0 hb1 HC hl3
  generalize bstr (encS 3 s) = pb at *
  go_wp2_with fail
  refine HG.out.mono ?_
  rintro e w2 ⟨rfl, hb2⟩
  go_wp2_with fail
  go_ret2
  exact ⟨.inr ⟨HSF.out.1, rfl⟩, bthen hB1 hb2⟩
end Go.Proofs.YtibiankbmhdljabGreatDoor
