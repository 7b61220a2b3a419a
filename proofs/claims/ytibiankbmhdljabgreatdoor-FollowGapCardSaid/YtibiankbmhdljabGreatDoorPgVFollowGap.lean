/-
  Several texts in one: VFollowGap.
-/
import Derived.Test.YtibiankbmhdljabGreatDoorPgFolC
import Derived.Test.YtibiankbmhdljabGreatDoorPgRefD
set_option linter.all false
set_option maxHeartbeats 16000000
set_option maxRecDepth 100000
namespace Go.Proofs.YtibiankbmhdljabGreatDoor.followGap
open Go.ChangeShapes Go.WideShapes Go.ChangeAt Go.RowKit Go.Joins
open Go.ChangeMaps (open_string)
theorem stateFrameR_ex (s : St) (p1 p2 p3 : Option Addr) (c1 c2 c3 : Nat) (w : World) (hm : StM w w.heap.size p1 p2 p3 s) (hz : StSz s) :
  Calls Tryz.prog 16 #[.agg (stv s p1 p2 p3 c1 c2 c3), .int .i64 3] w fun e w' => ∃ (t : ByteArray) (z : Int), e = .returned (.tuple #[.string t, .int .i64 z]) ∧ (z = 0 → (sfrR 3 s).2 = 0 ∧ t = bstr (sfrR 3 s).1) ∧ Below w.heap.size w w' := by
 refine (vkz s p1 p2 p3 c1 c2 c3 w hm hz).mono ?_
 rintro e w1 ⟨⟨z, hz, rfl⟩ | ⟨h0, rfl⟩, hb⟩
 ·exact ⟨_, z, rfl, fun h => absurd h hz, hb⟩
 ·exact ⟨_, 0, rfl, fun _ => ⟨h0, rfl⟩, hb⟩
theorem diffD_ok (a b : St) : DelOk (diffD a b) := by
 unfold diffD
 by_cases h : diffE a b = 0
 ·rw [if_pos h]
  have hd : uqq a = 0 ∧ uqq b = 0 ∧ a.rev < b.rev := by
   unfold diffE at h
   by_cases h1 : uqq a = 0
   ·rw [if_neg (by simpa using h1)] at h
    by_cases h2 : uqq b = 0
    ·rw [if_neg (by simpa using h2)] at h
     by_cases h3 : b.rev ≤ a.rev
     ·rw [if_pos h3] at h; cases h
     ·exact ⟨h1, h2, by omega⟩
    ·rw [if_pos h2] at h; exact absurd h h2
   ·rw [if_pos h1] at h; exact absurd h h1
  exact xq8 (vjo hd.1 hd.2.1 hd.2.2)
 ·rw [if_neg h]
  exact ⟨⟨by simp [noD], by simp [noD], by simp [noD], by simp [noD], by simp [noD], by simp [noD]⟩, (fun x hx => by simp [noD] at hx), (fun x hx => by simp [noD] at hx), (fun x hx => by simp [noD] at hx), (fun x hx => by simp [noD] at hx), (fun x hx => by simp [noD] at hx), (fun x hx => by simp [noD] at hx)⟩
theorem diff_good {a b : St} (h : diffE a b = 0) : uqq a = 0 ∧ uqq b = 0 ∧ a.rev < b.rev ∧ diffD a b = betw a b := by
 have hd := h
 unfold diffE at h
 by_cases h1 : uqq a = 0
 ·rw [if_neg (by simpa using h1)] at h
  by_cases h2 : uqq b = 0
  ·rw [if_neg (by simpa using h2)] at h
   by_cases h3 : b.rev ≤ a.rev
   ·rw [if_pos h3] at h; cases h
   ·exact ⟨h1, h2, by omega, by unfold diffD; rw [if_pos hd]⟩
  ·rw [if_pos h2] at h; exact absurd h h2
 ·rw [if_pos h1] at h; exact absurd h h1
theorem walk (s0 : St) (pj0 pn0 pl0 : Option Addr) (cj0 cn0 cl0 : Nat) (w : World) (hm0 : StM w w.heap.size pj0 pn0 pl0 s0) (hk0 : StOk s0) (s1 : St) (pj1 pn1 pl1 : Option Addr) (cj1 cn1 cl1 : Nat) (hm1 : StM w w.heap.size pj1 pn1 pl1 s1) (hk1 : StOk s1) (s2 : St) (pj2 pn2 pl2 : Option Addr) (cj2 cn2 cl2 : Nat) (hm2 : StM w w.heap.size pj2 pn2 pl2 s2) (hk2 : StOk s2) (hT : Tabs w) :
  Calls Tryz.prog 6 #[.agg (stv s0 pj0 pn0 pl0 cj0 cn0 cl0), .agg (stv s1 pj1 pn1 pl1 cj1 cn1 cl1), .agg (stv s2 pj2 pn2 pl2 cj2 cn2 cl2)] w fun e w' => e = .returned (.bool true) ∧ Below w.heap.size w w' := by
 have ba0 := ((Blk.new w 35 (stv s0 pj0 pn0 pl0 cj0 cn0 cl0)).alloc (.cells (stv s1 pj1 pn1 pl1 cj1 cn1 cl1) 35)).alloc (.cells (stv s2 pj2 pn2 pl2 cj2 cn2 cl2) 35)
 have sz1 : (w.alloc (.cells (stv s0 pj0 pn0 pl0 cj0 cn0 cl0) 35)).heap.size = w.heap.size + 1 := by simp
 have bb0 := (Blk.new (w.alloc (.cells (stv s0 pj0 pn0 pl0 cj0 cn0 cl0) 35)) 35 (stv s1 pj1 pn1 pl1 cj1 cn1 cl1)).alloc (.cells (stv s2 pj2 pn2 pl2 cj2 cn2 cl2) 35)
 rw [sz1] at bb0
 have sz2 : ((w.alloc (.cells (stv s0 pj0 pn0 pl0 cj0 cn0 cl0) 35)).alloc (.cells (stv s1 pj1 pn1 pl1 cj1 cn1 cl1) 35)).heap.size = w.heap.size + 1 + 1 := by simp
 have bc0 := Blk.new ((w.alloc (.cells (stv s0 pj0 pn0 pl0 cj0 cn0 cl0) 35)).alloc (.cells (stv s1 pj1 pn1 pl1 cj1 cn1 cl1) 35)) 35 (stv s2 pj2 pn2 pl2 cj2 cn2 cl2)
 rw [sz2] at bc0
 have c0 : Below w.heap.size w (((w.alloc (.cells (stv s0 pj0 pn0 pl0 cj0 cn0 cl0) 35)).alloc (.cells (stv s1 pj1 pn1 pl1 cj1 cn1 cl1) 35)).alloc (.cells (stv s2 pj2 pn2 pl2 cj2 cn2 cl2) 35)) := (((zri _ _).alloc (zra _) _).alloc (by rw [sz1]; omega) _).alloc (by rw [sz2]; omega) _
 have M0 := zrj hm0
 have M1 := zrj hm1
 have M2 := zrj hm2
 have Z0 := zrj hk0.sz
 have Z1 := zrj hk1.sz
 have Z2 := zrj hk2.sz
 have HT := zrj hT
 have hzf := uzg
 clear hm0 hm1 hm2 hk0 hk1 hk2 hT sz1 sz2
 go_enter Tryz.func6, Tryz.ntmps6
 go_wp2_with fail
 generalize ((w.alloc _).alloc _).alloc _ = W0 at *
 refine (uv3 _ (HT.out.below c0)).mono ?_
 rintro e w1 ⟨rfl, hb1⟩
 have ba1 := ba0.below hb1 ba0.lt
 have bb1 := bb0.below hb1 bb0.lt
 have bc1 := bc0.below hb1 bc0.lt
 have c1 := bthen c0 hb1
 clear ba0 bb0 bc0 c0 hb1
 have HA := zrj (stateFrameR_ex s0 pj0 pn0 pl0 cj0 cn0 cl0 w1 ((M0.out.below c1).more c1.size) Z0.out)
 go_wp2_with (first | (refine uqn (by rfl) _ _ rfl (w.heap.size) rfl _ _ ba1 _ Tryz.underlying35 rfl uqg ?_))
 refine HA.out.mono ?_
 rintro e w2 ⟨tx, zx, rfl, hx, hb2⟩
 have HX := zrj hx
 clear hx HA
 have ba2 := ba1.below hb2 ba1.lt
 have bb2 := bb1.below hb2 bb1.lt
 have bc2 := bc1.below hb2 bc1.lt
 have c2 := bthen c1 hb2
 clear ba1 bb1 bc1 c1 hb2
 have HD := zrj (diff_any s1 s2 pj1 pn1 pl1 pj2 pn2 pl2 cj1 cn1 cl1 cj2 cn2 cl2 w2 ((M1.out.below c2).more c2.size) ((M2.out.below c2).more c2.size) Z1.out Z2.out (HT.out.below c2))
 have HDK := zrj (diffD_ok s1 s2)
 have HDG := zrj (fun h => diff_good (a := s1) (b := s2) h)
 generalize diffE s1 s2 = de at *
 generalize diffD s1 s2 = d at *
 go_wp2_with (first | (refine uqn (by rfl) _ _ rfl (w.heap.size + 1) rfl _ _ bb2 _ Tryz.underlying35 rfl uqg ?_) | (refine uqn (by rfl) _ _ rfl (w.heap.size + 1 + 1) rfl _ _ bc2 _ Tryz.underlying35 rfl uqg ?_))
 refine HD.out.mono ?_
 rintro e w3 ⟨q1, q2, q3, q4, q5, q6, e1, e2, e3, e4, e5, e6, rfl, hO, hb3⟩
 have ba3 := ba2.below hb3 ba2.lt
 have bb3 := bb2.below hb3 bb2.lt
 have bc3 := bc2.below hb3 bc2.lt
 have c3 := bthen c2 hb3
 clear ba2 bb2 bc2 c2 hb3
 have hdm := hO.m
 have bd3 := Blk.new w3 49 (dv d q1 q2 q3 q4 q5 q6 e1 e2 e3 e4 e5 e6)
 have hb4 : Below w3.heap.size w3 (w3.alloc (.cells (dv d q1 q2 q3 q4 q5 q6 e1 e2 e3 e4 e5 e6) 49)) := (zri _ _).alloc (zra _) _
 have hdm4 := hdm.below hb4
 clear hO hdm HD
 have ba4 := ba3.below hb4 ba3.lt
 have bb4 := bb3.below hb4 bb3.lt
 have bc4 := bc3.below hb4 bc3.lt
 have c4 := bthen c3 hb4
 clear ba3 bb3 bc3 c3 hb4
 go_upto_region 5 with (first | (refine uqd rfl _ _ _ rfl rfl 49 _ (dv d q1 q2 q3 q4 q5 q6 e1 e2 e3 e4 e5 e6) rfl uqy rfl (uk1 _ _ _ _ _ _ _ _ _ _ _ _ _ _ _ _ _ _ _ _) ?_))
 have hdm5 := hdm4.more (show w3.heap.size ≤ (w3.alloc (.cells (dv d q1 q2 q3 q4 q5 q6 e1 e2 e3 e4 e5 e6) 49)).heap.size by simp)
 have HE := zrj (vzm d q1 q2 q3 q4 q5 q6 e1 e2 e3 e4 e5 e6 _ hdm5 HDK.out (HT.out.below c4))
 clear hdm4 hdm5 HDK
 generalize w3.alloc _ = W4 at *
 generalize w3.heap.size = gd at *
 have HEK := zrj (fun h => wkv (d := d) h)
 generalize encDR d = er at *
 go_wp2_with (first | (refine uqn (by rfl) _ _ rfl (gd) rfl _ _ bd3 _ Tryz.underlying49 rfl uqy ?_))
 refine HE.out.mono ?_
 rintro e w5 ⟨rfl, hb5⟩
 clear HE bd3
 have ba5 := ba4.below hb5 ba4.lt
 have bb5 := bb4.below hb5 bb4.lt
 have bc5 := bc4.below hb5 bc4.lt
 have c5 := bthen c4 hb5
 clear ba4 bb4 bc4 c4 hb5
 have HC := zrj (stateFrameR_ex s2 pj2 pn2 pl2 cj2 cn2 cl2 w5 ((M2.out.below c5).more c5.size) Z2.out)
 go_wp2_with (first | (refine uqn (by rfl) _ _ rfl (w.heap.size + 1 + 1) rfl _ _ bc5 _ Tryz.underlying35 rfl uqg ?_))
 refine HC.out.mono ?_
 rintro e w6 ⟨tz, zz, rfl, hz, hb6⟩
 have HZ := zrj hz
 clear hz HC
 have ba6 := ba5.below hb6 ba5.lt
 have bb6 := bb5.below hb6 bb5.lt
 have bc6 := bc5.below hb6 bc5.lt
 have c6 := bthen c5 hb6
 clear ba5 bb5 bc5 c5 hb6
 have ka := ba6.cell 0
 have kb := bb6.cell 0
 by_cases h1 : zx = 0
 rotate_left
 ·have n1 : (zx != 0) = true := by rw [bne_iff_ne]; exact h1
  go_wp2_with fail
  go_ret
  exact ⟨rfl, c6⟩
 by_cases h2 : de = 0
 rotate_left
 ·have n1 : (zx != 0) = false := by rw [h1]; rfl
  have n2 : ((de : Int) != 0) = true := by rw [bne_iff_ne]; omega
  clear h1
  go_wp2_with fail
  go_ret
  exact ⟨rfl, c6⟩
 by_cases h3 : er.2 = 0
 rotate_left
 ·have n1 : (zx != 0) = false := by rw [h1]; rfl
  have n2 : ((de : Int) != 0) = false := by rw [h2]; rfl
  have n3 : ((er.2 : Int) != 0) = true := by rw [bne_iff_ne]; omega
  clear h1 h2
  go_wp2_with fail
  go_ret
  exact ⟨rfl, c6⟩
 by_cases h4 : zz = 0
 rotate_left
 ·have n1 : (zx != 0) = false := by rw [h1]; rfl
  have n2 : ((de : Int) != 0) = false := by rw [h2]; rfl
  have n3 : ((er.2 : Int) != 0) = false := by rw [h3]; rfl
  have n4 : (zz != 0) = true := by rw [bne_iff_ne]; exact h4
  clear h1 h2 h3
  go_wp2_with fail
  go_ret
  exact ⟨rfl, c6⟩
 by_cases h5 : s0.rev = s1.rev
 ·have n1 : (zx != 0) = false := by rw [h1]; rfl
  have n2 : ((de : Int) != 0) = false := by rw [h2]; rfl
  have n3 : ((er.2 : Int) != 0) = false := by rw [h3]; rfl
  have n4 : (zz != 0) = false := by rw [h4]; rfl
  have n5 : (s0.rev == s1.rev) = true := by rw [beq_iff_eq]; exact h5
  clear h1 h2 h3 h4 h5
  go_wp2_with fail
  go_ret
  exact ⟨rfl, c6⟩
 have n1 : (zx != 0) = false := by rw [h1]; rfl
 have n2 : ((de : Int) != 0) = false := by rw [h2]; rfl
 have n3 : ((er.2 : Int) != 0) = false := by rw [h3]; rfl
 have n4 : (zz != 0) = false := by rw [h4]; rfl
 have n5 : (s0.rev == s1.rev) = false := by rw [zrf]; exact h5
 obtain ⟨x1, x2⟩ := HX.out h1
 obtain ⟨y1, y2⟩ := HZ.out h4
 obtain ⟨g1, g2, g3, g4⟩ := HDG.out h2
 obtain ⟨r1, r2, r3⟩ := HEK.out h3
 obtain ⟨u1, u2, u3⟩ := wxy x1
 obtain ⟨v1, v2, v3⟩ := wxy y1
 rw [u3] at x2
 rw [v3] at y2
 have hy : ux3 ⟨3, 2, encD d⟩ := ⟨⟨by show 1 ≤ 3; decide, by show 3 ≤ 3; decide⟩, ⟨by show 1 ≤ 2; decide, by show 2 ≤ 4; decide⟩, by show (encD d).length ≤ 6000; exact r3⟩
 have HFe := zrj (uvo 3 2 (encD d) (by decide) (by decide) r3 w6)
 have hg0 : ∀ y ∈ ([] : List Fr), ux3 y := by simp
 have hg1 : ∀ y ∈ [(⟨3, 1, encS 3 s0⟩ : Fr)], ux3 y := fun y hym => by rw [List.mem_singleton.1 hym]; exact u2
 have hg2 : ∀ y ∈ [(⟨3, 1, encS 3 s0⟩ : Fr), ⟨3, 2, encD d⟩], ux3 y := fun y hym => by
  rcases List.mem_cons.1 hym with rfl | hym
  ·exact u2
  ·rw [List.mem_singleton.1 hym]; exact hy
 have N1 := (uj4 hg0 u2).1
 have N2 := (uj4 hg1 hy).1
 have N3 := (uj4 hg2 v2).1
 have Q1 := uvg hg0 u2
 have Q2 := uvg hg1 hy
 have Q3 := uvg hg2 v2
 have S1 : (folOf [(⟨3, 1, encS 3 s0⟩ : Fr)]).st = some s0 := by
  have := vxb [] ⟨3, 1, encS 3 s0⟩
  rw [List.nil_append] at this
  rw [this, ujn u1]
 have hgap : folFr (some s0) ⟨3, 2, encD d⟩ = (none, 10) := by rw [g4]; exact xxq u1 g1 g2 g3 h5 (by rw [← g4]; exact r3)
 have S2 : (folOf [(⟨3, 1, encS 3 s0⟩ : Fr), ⟨3, 2, encD d⟩]).st = none := by
  have := vxb [⟨3, 1, encS 3 s0⟩] ⟨3, 2, encD d⟩
  rw [S1, hgap] at this
  exact this
 have S3 : (folOf [(⟨3, 1, encS 3 s0⟩ : Fr), ⟨3, 2, encD d⟩, ⟨3, 1, encS 3 s2⟩]).st = some s2 := by
  have := vxb [⟨3, 1, encS 3 s0⟩, ⟨3, 2, encD d⟩] ⟨3, 1, encS 3 s2⟩
  rw [ujn v1] at this
  exact this
 have D1 := uwj hg0 u2
 rw [ujn u1] at D1
 have D2 := uwj hg1 hy
 rw [S1, hgap] at D2
 have D3 := uwj hg2 v2
 rw [ujn v1] at D3
 have L1 := uxt 3 1 (encS 3 s0)
 have L2 := uxt 3 2 (encD d)
 have L3 := uxt 3 1 (encS 3 s2)
 have l1 := uqj (encS 3 s0).length (by have := u2.2.2; dsimp only at this; omega)
 have l2 := uqj (encD d).length (by omega)
 have l3 := uqj (encS 3 s2).length (by have := v2.2.2; dsimp only at this; omega)
 have m1 : (wireF 3 1 (encS 3 s0)).length ≤ 6018 := by have := u2.2.2; dsimp only at this; omega
 have m2 : (wireF 3 2 (encD d)).length ≤ 6018 := by omega
 have m3 : (wireF 3 1 (encS 3 s2)).length ≤ 6018 := by have := v2.2.2; dsimp only at this; omega
 simp only [List.nil_append, List.cons_append] at Q1 Q2 Q3
 have K1 := uy1 []
 have K2 := uy1 [(⟨3, 1, encS 3 s0⟩ : Fr)]
 have K3 := uy1 [(⟨3, 1, encS 3 s0⟩ : Fr), ⟨3, 2, encD d⟩]
 have HF2 := zrj ((uxm s2).1 g2)
 rw [vj2] at N1 Q1 D1 K1
 generalize folOf [(⟨3, 1, encS 3 s0⟩ : Fr)] = f1 at *
 generalize folOf [(⟨3, 1, encS 3 s0⟩ : Fr), ⟨3, 2, encD d⟩] = f2 at *
 generalize folOf [(⟨3, 1, encS 3 s0⟩ : Fr), ⟨3, 2, encD d⟩, ⟨3, 1, encS 3 s2⟩] = f3 at *
 generalize wireF 3 1 (encS 3 s0) = b1 at *
 generalize wireF 3 2 (encD d) = b2 at *
 generalize wireF 3 1 (encS 3 s2) = b3 at *
 have hr1 : er.1 = encD d := by rw [r1]
 rw [← hr1] at HFe
 subst x2 y2
 have HQ := zrj (show uzb.push b1 = f1 ∧ f1.push b2 = f2 ∧ f2.push b3 = f3 from ⟨Q1, Q2, Q3⟩)
 have HN := zrj (show (newF uzb.L b1).length = 1 ∧ (newF f1.L b2).length = 1 ∧ (newF f2.L b3).length = 1 from ⟨by rw [N1]; rfl, by rw [N2]; rfl, by rw [N3]; rfl⟩)
 have HDD := zrj (show uzb.code b1 = 0 ∧ f1.code b2 = 10 ∧ f2.code b3 = 0 from ⟨D1, D2, D3⟩)
 have HS := zrj (show f2.st = none ∧ f3.st = some s2 from ⟨S2, S3⟩)
 have HK := zrj (show FolOk uzb.st ∧ FolOk f1.st ∧ FolOk f2.st from ⟨K1, K2, K3⟩)
 clear HX HZ HDG HEK h1 h2 h3 h4 h5 x1 y1 g1 g2 g3 g4 r1 r2 r3 u1 u2 u3 v1 v2 v3 hy hg0 hg1 hg2 N1 N2 N3 Q1 Q2 Q3 S1 S2 S3 D1 D2 D3 L1 L2 L3 l1 l2 l3 K1 K2 K3 hgap hr1
 generalize bstr er.1 = pb at *
 go_wp2_with fail
 refine HFe.out.mono ?_
 rintro e w7 ⟨rfl, hb7⟩
 clear HFe ka kb n1 n2 n3 n4 n5
 have bc7 := bc6.below hb7 bc6.lt
 have c7 := bthen c6 hb7
 clear bc6 c6 hb7 ba6 bb6
 go_wp2_with fail
 refine (uvf w7).mono ?_
 rintro e w8 ⟨f, fd, rfl, hf, hfd, Mf, hb8⟩
 have HBW := zrj (show w.heap.size ≤ f ∧ w.heap.size ≤ fd from ⟨zrc c7.size hf, zrc c7.size hfd⟩)
 have HFC := zrj (show w.heap.size + 1 + 1 ≠ f ∧ w.heap.size + 1 + 1 ≠ fd from by have := bc7.lt; omega)
 have bc8 := bc7.below hb8 bc7.lt
 have c8 := bthen c7 hb8
 clear bc7 c7 hb8
 have HP1 := zrj (uzt f fd _ uzb _ (bstr b1) w8 w.heap.size Mf HK.out.1 (by rw [uqw]; omega) (by rw [uqt, HN.out.1]; exact (by decide : 1 ≤ 4398046511104)) (fun W hW => HT.out.below (c8.trans hW)) c8.size HBW.out)
 rw [uqt, HN.out.1, HDD.out.1, HQ.out.1] at HP1
 clear Mf hf hfd
 generalize bstr b1 = t1 at *
 go_wp2_with fail
 refine HP1.out.mono ?_
 rintro e w9 ⟨rfl, vf1, R1, Mf1, T1, hR1⟩
 have bc9 := T1.blk bc8 (fun h => h.elim HFC.out.1 HFC.out.2)
 have c9 := c8.trans (T1.below (B := w.heap.size) (fun k hk => by rcases hk with rfl | rfl; exact HBW.out.1; exact HBW.out.2) c8.size)
 clear HP1 T1 hR1 bc8 c8
 have HP2 := zrj (uzt f fd R1 f1 vf1 (bstr b2) w9 w.heap.size Mf1 HK.out.2.1 (by rw [uqw]; omega) (by rw [uqt, HN.out.2.1]; exact (by decide : 1 ≤ 4398046511104)) (fun W hW => HT.out.below (c9.trans hW)) c9.size HBW.out)
 rw [uqt, HN.out.2.1, HDD.out.2.1, HQ.out.2.1] at HP2
 clear Mf1
 generalize bstr b2 = t2 at *
 go_wp2_with fail
 refine HP2.out.mono ?_
 rintro e w10 ⟨rfl, vf2, R2, Mf2, T2, hR2⟩
 have bc10 := T2.blk bc9 (fun h => h.elim HFC.out.1 HFC.out.2)
 have c10 := c9.trans (T2.below (B := w.heap.size) (fun k hk => by rcases hk with rfl | rfl; exact HBW.out.1; exact HBW.out.2) c9.size)
 clear HP2 T2 hR2 bc9 c9
 have hs2 := Mf2.s
 rw [HS.out.1] at hs2
 obtain rfl : vf2 = .pointer none := hs2
 have HSN := zrj (uwt f fd w10 Mf2.b)
 go_wp2_with fail
 refine HSN.out.mono ?_
 rintro e w11 ⟨rfl, hb11⟩
 have bc11 := bc10.below hb11 bc10.lt
 have c11 := bthen c10 hb11
 have Mf3 := Mf2.below hb11
 have hb12 : Below w11.heap.size w11 (w11.alloc (.cells zsv 35)) := (zri _ _).alloc (zra _) _
 have bc12 := bc11.below hb12 bc11.lt
 have c12 := bthen c11 hb12
 have Mf4 := Mf3.below hb12
 clear HSN Mf2 Mf3 bc10 c10 hb11 bc11 c11 hb12
 go_upto_region 14 with (first | (refine uqd rfl _ _ _ rfl rfl 35 _ zsv rfl uqg rfl (uxq _ _ _ _ _ _ _ _ _ _) ?_))
 generalize w11.alloc _ = w12 at *
 have HP3 := zrj (uzt f fd R2 f2 _ (bstr b3) w12 w.heap.size Mf4 HK.out.2.2 (by rw [uqw]; omega) (by rw [uqt, HN.out.2.2]; exact (by decide : 1 ≤ 4398046511104)) (fun W hW => HT.out.below (c12.trans hW)) c12.size HBW.out)
 rw [uqt, HN.out.2.2, HDD.out.2.2, HQ.out.2.2] at HP3
 clear Mf4
 generalize bstr b3 = t3 at *
 go_wp2_with fail
 refine HP3.out.mono ?_
 rintro e w13 ⟨rfl, vf3, R3, Mf5, T3, hR3⟩
 have bc13 := T3.blk bc12 (fun h => h.elim HFC.out.1 HFC.out.2)
 have c13 := c12.trans (T3.below (B := w.heap.size) (fun k hk => by rcases hk with rfl | rfl; exact HBW.out.1; exact HBW.out.2) c12.size)
 clear HP3 T3 hR3 bc12 c12
 have hpt := Mf5.s
 rw [HS.out.2] at hpt
 obtain ⟨b, m1_, m2_, m3_, k1_, k2_, k3_, rfl, hbb, _, hmS, _, _, _⟩ := hpt
 have HSt := zrj (uk5 f fd b s2 m1_ m2_ m3_ k1_ k2_ k3_ w13 Mf5.b hbb hmS (by have := HF2.out.nj; omega) (by have := HF2.out.nn; omega) (by have := HF2.out.nl; omega))
 clear Mf5 hbb hmS
 go_wp2_with fail
 refine HSt.out.mono ?_
 rintro e w14 ⟨q1_, q2_, q3_, d1_, d2_, d3_, rfl, hO, hb14⟩
 have c14 := bthen c13 hb14
 have bc14 := bc13.below hb14 bc13.lt
 have hb15 : Below w14.heap.size w14 (w14.alloc (.cells (stv s2 q1_ q2_ q3_ d1_ d2_ d3_) 35)) := (zri _ _).alloc (zra _) _
 have bS := Blk.new w14 35 (stv s2 q1_ q2_ q3_ d1_ d2_ d3_)
 have bc15 := bc14.below hb15 bc14.lt
 have hM15 := (hO.below hb15).m
 have c15 := bthen c14 hb15
 clear hO hb14 hb15 HSt bc13 c13 bc14 c14
 go_upto_region 16 with (first | (refine uqd rfl _ _ _ rfl rfl 35 _ (stv s2 q1_ q2_ q3_ d1_ d2_ d3_) rfl uqg rfl (uxq _ _ _ _ _ _ _ _ _ _) ?_))
 generalize w14.alloc _ = w15 at *
 generalize w14.heap.size = g6 at *
 have HR := vjl s2 s2 q1_ q2_ q3_ pj2 pn2 pl2 d1_ d2_ d3_ cj2 cn2 cl2 w15 hM15 ((M2.out.below c15).more c15.size) HF2.out.sz Z2.out
 rw [decide_eq_true rfl] at HR
 have HRR := zrj HR
 clear HR hM15
 go_wp2_with (first | (refine uqn (by rfl) _ _ rfl g6 rfl _ _ bS _ Tryz.underlying35 rfl uqg ?_) | (refine uqn (by rfl) _ _ rfl (w.heap.size + 1 + 1) rfl _ _ bc15 _ Tryz.underlying35 rfl uqg ?_))
 refine HRR.out.mono ?_
 rintro e w16 ⟨rfl, hb16⟩
 go_wp2_with fail
 go_ret
 exact ⟨rfl, bthen c15 hb16⟩
end Go.Proofs.YtibiankbmhdljabGreatDoor.followGap
