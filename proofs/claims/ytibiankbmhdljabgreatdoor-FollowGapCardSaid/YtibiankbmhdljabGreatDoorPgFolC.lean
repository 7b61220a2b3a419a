/-
  Several texts in one: FolB, FolO, FolY.
-/
import Derived.Test.YtibiankbmhdljabGreatDoorPgHubG
import Derived.Test.YtibiankbmhdljabGreatDoorPgFolB
set_option linter.all false
set_option maxHeartbeats 16000000
set_option maxRecDepth 100000
namespace Go.Proofs.YtibiankbmhdljabGreatDoor
open Go.Proofs.Tryz
open Go.RowKit
theorem FolM.hub {w w' : World} {B g sv f fd' : Nat} {fd : Nat -> Nat} {ws ws' : Nat -> Value} {h : HubD} {R : Nat -> Prop} {x : FolD} {v : Value} (M : FolM w f fd' R x v) (H : HubM w B g sv fd ws h) (C : HubC w g sv fd ws w' ws') (hR : ∀ k, R k -> k < B) : FolM w' f fd' R x v :=
 M.tch C.t (fun k hk ho => by have h1 := (H.own_ge ho).1; have h2 := hR k hk; omega)
def ujf : ReqD := ⟨9, noJ, noN, noL, ByteArray.empty, 0⟩
theorem uvv : reqE ujf = 0 := by decide +kernel
theorem vkq : (doR ⟨uq3, 0⟩ ujf).code = 0 := by decide +kernel
theorem wj1 : ReqSz ujf := ⟨sz0, sz0, sz0, sz0, sz0, sz0, sz0⟩
theorem vk6 : (newH uq3).out 0 (uje ujf) = [⟨3, 4, encP 0 4⟩, ⟨3, 1, (encR 3 uq3).1⟩] := by
 unfold uje
 rw [if_pos uvv]
 exact wkm ((uxm _).1 ujr) (by decide) uvv (.inr rfl) vkq vzu
theorem wj3 : (encR 3 uq3).1 = encS 3 uq3 := by decide +kernel
theorem vj3 : uzk none [(⟨3, 4, encP 0 4⟩ : Fr), ⟨3, 1, (encR 3 uq3).1⟩] = (some uq3, 0) := by
 rw [wj3]
 unfold uzk
 rw [List.foldl_cons, List.foldl_cons, List.foldl_nil]
 unfold folGo
 simp only [if_true]
 rw [wzz]
 simp only [if_true]
 rw [ujn ujr]
theorem uv3 (w : World) (hT : Tabs w) : Calls prog 7 #[] w fun e w' => e = .returned (.bool true) ∧ Below w.heap.size w w' := by
 have hzq := uq6
 have hgf : ∀ x ∈ [(⟨3, 4, encP 0 4⟩ : Fr), ⟨3, 1, (encR 3 uq3).1⟩], ux3 x := fun x hx => (out_ok (newH_ok uq3) 0 (uje ujf) x (by rw [vk6]; exact hx)).1
 have hbs := wv7 ujf
 have hnf := one_new uq3 (k := 0) (by decide) uvv
 go_enter func7, ntmps7
 go_wp2_with fail
 refine (uvf w).mono ?_
 rintro e w0 ⟨f, fd', rfl, hf0, hfd0, M0, hb0⟩
 go_wp2_with fail
 refine (vwi w0).mono ?_
 rintro e w1 ⟨bj, bn, bl, rfl, x1, x2, x3, hb1, hlt⟩
 have hB1 := hb0.trans (hb1.mono hb0.size)
 have hs01 : w0.heap.size <= w1.heap.size := hb1.size
 have M1 := M0.below hb1
 have hm : StM w1 w1.heap.size (some ⟨bj, 0, none⟩) (some ⟨bn, 0, none⟩) (some ⟨bl, 0, none⟩) uq3 := ⟨.of_blk (by decide) x1 rfl, .of_blk (by decide) x2 rfl, .of_blk (by decide) x3 rfl⟩
 have HN := zrj (hnew_ok uq3 _ _ _ 2 1 1 w1 hm vza (hT.below hB1) ujr)
 clear hm x1 x2 x3 M0
 go_wp2_with fail
 refine HN.out.mono ?_
 rintro e w2 ⟨g, sv, fd, ws, rfl, H2, hb2⟩
 have hB2 := hB1.trans (hb2.mono hB1.size)
 have M2 := M1.below hb2
 have HH2 := zrj H2
 have HBy := zrj (wv6 ujf w2 wj1 (hT.below hB2) (.inr rfl) uvv)
 rw [show decide (reqE ujf = 0) = true from by rw [uvv]; rfl] at HBy
 clear H2 HN hb2 M1
 go_wp2_with fail
 refine HBy.out.mono ?_
 rintro e w3 ⟨rfl, hb3⟩
 have H3 := HH2.out.below hb3
 have M3 := M2.below hb3
 have hB3 := hB2.trans (hb3.mono hB2.size)
 have HSd := zrj (hsend_by H3 (k := 0) (by decide) (vyy ((uxm _).1 ujr)) (fun W hW => hT.below (hB3.trans (hW.mono hB1.size))) (bstr (uje ujf)) (by rw [uqw]; omega)
  (by rw [uqt, hnf]; decide) (fun n i hi => by
   rw [uqt]
   have h := mid_len1 (newH uq3) 0 (uje ujf) n i
   rw [wvc, hnf] at h
   have h2 : [reqFr ujf].length = 1 := rfl
   omega) rfl (fun n x hx W wsn HW HTW => by
   rw [uqt, hnf] at hx
   obtain ⟨rfl, rfl⟩ : n = 0 ∧ x = reqFr ujf := by
    rcases n with _ | n
    ·exact ⟨rfl, by injection hx with hx; exact hx.symm⟩
    ·cases hx
   rw [uqt, wk8] at HW ⊢
   have hd := wqp uvv
   have hdk : (decQR (reqFr ujf).pl).2 = 0 ∧ (decQR (reqFr ujf).pl).1.kind = 9 := by
    show (decQR (encQ ujf)).2 = 0 ∧ (decQR (encQ ujf)).1.kind = 9
    rw [hd]; exact ⟨rfl, rfl⟩
   refine wz4 HW (by decide) (vyy ((uxm _).1 ujr)) HTW (reqFr ujf) (vqc uvv) hdk ?_ ?_ rfl rfl hdk.1
   ·show (doR _ (decQR (encQ ujf)).1).code = 0
    rw [hd]; exact vkq
   ·intro i hi
    have h := vyb (newH uq3) 0 (uje ujf) i
    rw [wvc] at h
    have h2 : (((newH uq3).feed 0 (uje ujf)).len i) = (encs (((newH uq3).feed 0 (uje ujf)).c i).waits).length := rfl
    omega))
 rw [uqt, vk6] at HSd
 have HH3 := zrj H3
 clear H3 HBy HH2 hbs hnf hb3 M2
 generalize bstr (uje ujf) = bs at *
 go_wp2_with fail
 refine HSd.out.mono ?_
 rintro e w4 ⟨rfl, ws4, H4, C4⟩
 have hB4 := hB3.trans ((C4.under HH3.out).mono hB1.size)
 have M4 := M3.hub HH3.out C4 (fun k hk => by have := hk.2; omega)
 clear H4 C4 HSd M3 HH3
 have hna := vyl (fs := []) (by simp) hgf
 rw [uj3, List.nil_append] at hna
 have hel := vq7 _ hgf
 have HPu := zrj (uzt f fd' _ uzb _ (bstr (encs [(⟨3, 4, encP 0 4⟩ : Fr), ⟨3, 1, (encR 3 uq3).1⟩])) w4 w.heap.size M4 (fun t ht => by cases ht) (by rw [uqw]; have h2 : [(⟨3, 4, encP 0 4⟩ : Fr), ⟨3, 1, (encR 3 uq3).1⟩].length = 2 := rfl; omega) (by rw [uqt]; show (newF [] _).length <= _; rw [hna.1]; decide) (fun W hW => hT.below (hB4.trans hW)) hB4.size ⟨hf0, hfd0⟩)
 have hpl : (newF uzb.L (encs [(⟨3, 4, encP 0 4⟩ : Fr), ⟨3, 1, (encR 3 uq3).1⟩])).length = 2 := by show (newF [] _).length = 2; rw [hna.1]; rfl
 have hpc : uzb.code (encs [(⟨3, 4, encP 0 4⟩ : Fr), ⟨3, 1, (encR 3 uq3).1⟩]) = 0 := by
  show (if (uzk none (newF [] _)).2 = 0 then errF ([] ++ _) else (uzk none (newF [] _)).2) = 0
  rw [hna.1, vj3, List.nil_append, hna.2]; rfl
 have hps : (uzb.push (encs [(⟨3, 4, encP 0 4⟩ : Fr), ⟨3, 1, (encR 3 uq3).1⟩])).st = some uq3 := by
  show (uzk none (newF [] _)).1 = _
  rw [hna.1, vj3]
 rw [uqt, hpl, hpc] at HPu
 generalize uzb.push (encs [(⟨3, 4, encP 0 4⟩ : Fr), ⟨3, 1, (encR 3 uq3).1⟩]) = x5 at *
 generalize bstr (encs [(⟨3, 4, encP 0 4⟩ : Fr), ⟨3, 1, (encR 3 uq3).1⟩]) = outb at *
 clear hna hel hpl hpc M4 hgf
 go_wp2_with fail
 refine HPu.out.mono ?_
 rintro e w5 ⟨rfl, v5, R5, M5, T5, hR5⟩
 have hB5 := hB4.trans (T5.below (B := w.heap.size) (fun k hk => by rcases hk with rfl | rfl; exact hf0; exact hfd0) hB4.size)
 have hpt := M5.s
 rw [hps] at hpt
 obtain ⟨b, p1, p2, p3, c1, c2, c3, rfl, hbb, _, hmS, _, _, _⟩ := hpt
 have F := (uxm _).1 ujr
 have HSt := zrj (uk5 f fd' b uq3 p1 p2 p3 c1 c2 c3 w5 M5.b hbb hmS (by have := F.nj; omega) (by have := F.nn; omega) (by have := F.nl; omega))
 clear HPu T5 hR5 M5 hbb hmS hps F
 go_wp2_with fail
 refine HSt.out.mono ?_
 rintro e w6 ⟨q1, q2, q3, d1, d2, d3, rfl, hO, hb6⟩
 have hB6 := hB5.trans (hb6.mono hB5.size)
 have hb7 : Below w6.heap.size w6 (w6.alloc (.cells (stv uq3 q1 q2 q3 d1 d2 d3) 35)) := (zri _ _).alloc (zra _) _
 have bS := Blk.new w6 35 (stv uq3 q1 q2 q3 d1 d2 d3)
 have hM7 := (hO.below hb7).m
 have hB7 := hB6.trans (hb7.mono hB6.size)
 clear hO hb6 hb7 HSt
 go_upto_region 9 with (first | (refine uqd rfl _ _ _ rfl rfl 35 _ (stv uq3 q1 q2 q3 d1 d2 d3) rfl uqg rfl (uxq _ _ _ _ _ _ _ _ _ _) ?_))
 generalize w6.alloc _ = w7 at *
 generalize w6.heap.size = g6 at *
 have hM8 := hM7.tchN (HTch.of_below (O := fun _ => False) (zri w7.heap.size w7).drew) (fun _ _ _ h => h) (fun _ _ _ h => h) (fun _ _ _ h => h)
 have hB8 := hB7.drew
 have bS8 := bS.drew
 refine wp_region_held_drew (S := fun W => Blk W g6 35 (stv uq3 q1 q2 q3 d1 d2 d3)) (by kernel_rfl) bS8 (fun hHeld => ?_)
 generalize w7.drew = w8 at *
 clear hM7 hB7 bS
 refine tq 0 ?_
 refine tq 1 ?_
 refine tq 2 ?_
 refine tq 3 ?_
 refine tq 4 ?_
 refine tq 5 ?_
 refine tq 6 ?_
 refine tq 7 ?_
 refine tq 8 ?_
 refine tq 9 ?_
 refine tq 10 ?_
 refine tr 11 rfl (fun K hK => ?_)
 go_simp
 refine (vwi w8).mono ?_
 rintro e w9 ⟨bj, bn, bl, rfl, x1, x2, x3, hb9, hlt⟩
 have bS9 := bS8.below hb9 bS8.lt
 have hM9 := hM8.tchN (HTch.of_below (O := fun _ => False) hb9) (fun _ _ _ h => h) (fun _ _ _ h => h) (fun _ _ _ h => h)
 have hB9 := hB8.trans (hb9.mono hB8.size)
 have hm : StM w9 w9.heap.size (some ⟨bj, 0, none⟩) (some ⟨bn, 0, none⟩) (some ⟨bl, 0, none⟩) uq3 := ⟨.of_blk (by decide) x1 rfl, .of_blk (by decide) x2 rfl, .of_blk (by decide) x3 rfl⟩
 refine hK.out _ _ bS9 (fun hHeld => ?_)
 clear hK K x1 x2 x3 bS8 hM8 hB8
 (try simp only [Act.put, ma, mb, mc, md, me, mf])
 refine tr 12 rfl (fun K hK => ?_)
 go_simp
 have HR := vjl uq3 uq3 q1 q2 q3 (some ⟨bj, 0, none⟩) (some ⟨bn, 0, none⟩) (some ⟨bl, 0, none⟩) d1 d2 d3 2 1 1 w9 hM9 hm vza vza
 rw [decide_eq_true rfl] at HR
 refine HR.mono ?_
 rintro e w10 ⟨rfl, hb10⟩
 have hB10 := hB9.trans (hb10.mono hB9.size)
 refine hK.out _ _ (bS9.below hb10 bS9.lt) (fun hHeld => ?_)
 clear hK K HR
 (try simp only [Act.put, ma, mb, mc, md, me, mf])
 refine tq 13 ?_
 refine tq 14 ?_
 refine wpAnyH_done (by kernel_rfl) ?_ _
 go_wp2_with fail
 go_ret
 exact ⟨rfl, hB10⟩
def folOf (fs : List Fr) : FolD := ⟨encs fs, (uzk none fs).1⟩
theorem vj2 : folOf [] = uzb := by unfold folOf uzb; rw [uj3]; rfl
theorem uy1 (fs : List Fr) : FolOk (folOf fs).st := vxa (fun t h => by cases h) fs
theorem uj4 {fs : List Fr} (hg : ∀ x ∈ fs, ux3 x) {y : Fr} (hy : ux3 y) : newF (folOf fs).L (wireF y.ver y.kind y.pl) = [y] ∧ errF ((folOf fs).L ++ wireF y.ver y.kind y.pl) = 0 := wvb hg hy
theorem uvg {fs : List Fr} (hg : ∀ x ∈ fs, ux3 x) {y : Fr} (hy : ux3 y) : (folOf fs).push (wireF y.ver y.kind y.pl) = folOf (fs ++ [y]) := by
 unfold FolD.push
 rw [(uj4 hg hy).1]
 unfold folOf
 simp only
 rw [uzq, uv2, vv3]
theorem uwj {fs : List Fr} (hg : ∀ x ∈ fs, ux3 x) {y : Fr} (hy : ux3 y) : (folOf fs).code (wireF y.ver y.kind y.pl) = (folFr (folOf fs).st y).2 := by
 unfold FolD.code
 rw [(uj4 hg hy).1, (uj4 hg hy).2]
 unfold uzk folGo
 simp only [List.foldl_cons, List.foldl_nil, if_true]
 split
 ·rename_i h; rw [h]
 ·rfl
theorem vxb (fs : List Fr) (y : Fr) : (folOf (fs ++ [y])).st = (folFr (folOf fs).st y).1 := by
 unfold folOf
 simp only
 rw [vj1]
 rfl
theorem wxy {s : St} (h : (sfrR 3 s).2 = 0) : uqq s = 0 ∧ ux3 ⟨3, 1, encS 3 s⟩ ∧ (sfrR 3 s).1 = wireF 3 1 (encS 3 s) := by
 unfold sfrR at h ⊢
 by_cases h0 : (encR 3 s).2 ≠ 0
 ·rw [if_pos h0] at h; exact absurd h h0
 rw [if_neg h0] at h ⊢
 obtain ⟨he0, _, hc, _⟩ := encR_ok (v := 3) (s := s) (by omega)
 have he : (encR 3 s).1 = encS 3 s := by rw [he0]
 rw [he] at h ⊢
 unfold encF at h ⊢
 by_cases hg : goodF 3 1
 ·rw [if_pos hg] at h ⊢
  by_cases hl : 6000 < (encS 3 s).length
  ·rw [if_pos hl] at h; cases h
  ·rw [if_neg hl]
   exact ⟨hc, ⟨⟨by show 1 <= 3; decide, by show 3 <= 3; decide⟩, ⟨by show 1 <= 1; decide, by show 1 <= 4; decide⟩, by show (encS 3 s).length <= 6000; omega⟩, rfl⟩
 ·rw [if_neg hg] at h; cases h
def flatP (ps : List ByteArray) (k : Nat) : List UInt8 := ((ps.take k).map (·.data.toList)).flatten
def stOr (o : Option St) : St := o.getD uk3
end Go.Proofs.YtibiankbmhdljabGreatDoor
