/-
  Several texts in one: FolB, FolO, FolY.
-/
import Derived.Test.YtibiankbmhdljabGreatDoorPkHubG
import Derived.Test.YtibiankbmhdljabGreatDoorPkFolB
set_option linter.all false
set_option maxHeartbeats 16000000
set_option maxRecDepth 100000
namespace Go.Proofs.YtibiankbmhdljabGreatDoor
open Go.Proofs.Tryz
open Go.RowKit
theorem FolM.hub {w w' : World} {B g sv f fd' : Nat} {fd : Nat -> Nat} {ws ws' : Nat -> Value} {h : HubD} {R : Nat -> Prop} {x : FolD} {v : Value} (M : FolM w f fd' R x v) (H : HubM w B g sv fd ws h) (C : HubC w g sv fd ws w' ws') (hR : ∀ k, R k -> k < B) : FolM w' f fd' R x v :=
 M.tch C.t (fun k hk ho => by have h1 := (H.own_ge ho).1; have h2 := hR k hk; omega)
def uz9 : ReqD := ⟨9, noJ, noN, noL, ByteArray.empty, 0⟩
theorem uvh : reqE uz9 = 0 := by decide +kernel
theorem vjy : (doR ⟨uq3, 0⟩ uz9).code = 0 := by decide +kernel
theorem wz2 : ReqSz uz9 := ⟨sz0, sz0, sz0, sz0, sz0, sz0, sz0⟩
theorem vkd : (newH uq3).out 0 (uz8 uz9) = [⟨3, 4, encP 0 4⟩, ⟨3, 1, (encR 3 uq3).1⟩] := by
 unfold uz8
 rw [if_pos uvh]
 exact wjl ((uxn _).1 ujg) (by decide) uvh (.inr rfl) vjy vzc
theorem wz4 : (encR 3 uq3).1 = encS 3 uq3 := by decide +kernel
theorem vjg : uze none [(⟨3, 4, encP 0 4⟩ : Fr), ⟨3, 1, (encR 3 uq3).1⟩] = (some uq3, 0) := by
 rw [wz4]
 unfold uze
 rw [List.foldl_cons, List.foldl_cons, List.foldl_nil]
 unfold folGo
 simp only [if_true]
 rw [wx1]
 simp only [if_true]
 rw [uy8 ujg]
theorem uw1 (w : World) (hT : Tabs w) : Calls prog 7 #[] w fun e w' => e = .returned (.bool true) ∧ Below w.heap.size w w' := by
 have hzq := uq6
 have hgf : ∀ x ∈ [(⟨3, 4, encP 0 4⟩ : Fr), ⟨3, 1, (encR 3 uq3).1⟩], ux7 x := fun x hx => (out_ok (newH_ok uq3) 0 (uz8 uz9) x (by rw [vkd]; exact hx)).1
 have hbs := wk8 uz9
 have hnf := one_new uq3 (k := 0) (by decide) uvh
 go_enter func7, ntmps7
 go_wp2_with fail
 refine (uv3 w).mono ?_
 rintro e w0 ⟨f, fd', rfl, hf0, hfd0, M0, hb0⟩
 go_wp2_with fail
 refine (vvm w0).mono ?_
 rintro e w1 ⟨bj, bn, bl, rfl, x1, x2, x3, hb1, hlt⟩
 have hB1 := hb0.trans (hb1.mono hb0.size)
 have hs01 : w0.heap.size <= w1.heap.size := hb1.size
 have M1 := M0.below hb1
 have hm : StM w1 w1.heap.size (some ⟨bj, 0, none⟩) (some ⟨bn, 0, none⟩) (some ⟨bl, 0, none⟩) uq3 := ⟨.of_blk (by decide) x1 rfl, .of_blk (by decide) x2 rfl, .of_blk (by decide) x3 rfl⟩
 have HN := zrj (hnew_ok uq3 _ _ _ 2 1 1 w1 hm vxt (hT.below hB1) ujg)
 clear hm x1 x2 x3 M0
 go_wp2_with fail
 refine HN.out.mono ?_
 rintro e w2 ⟨g, sv, fd, ws, rfl, H2, hb2⟩
 have hB2 := hB1.trans (hb2.mono hB1.size)
 have M2 := M1.below hb2
 have HH2 := zrj H2
 have HBy := zrj (wk7 uz9 w2 wz2 (hT.below hB2) (.inr rfl) uvh)
 rw [show decide (reqE uz9 = 0) = true from by rw [uvh]; rfl] at HBy
 clear H2 HN hb2 M1
 go_wp2_with fail
 refine HBy.out.mono ?_
 rintro e w3 ⟨rfl, hb3⟩
 have H3 := HH2.out.below hb3
 have M3 := M2.below hb3
 have hB3 := hB2.trans (hb3.mono hB2.size)
 have HSd := zrj (hsend_by H3 (k := 0) (by decide) (vw4 ((uxn _).1 ujg)) (fun W hW => hT.below (hB3.trans (hW.mono hB1.size))) (bstr (uz8 uz9)) (by rw [uq0]; omega)
  (by rw [uqu, hnf]; decide) (fun n i hi => by
   rw [uqu]
   have h := mid_len1 (newH uq3) 0 (uz8 uz9) n i
   rw [wkd, hnf] at h
   have h2 : [reqFr uz9].length = 1 := rfl
   omega) rfl (fun n x hx W wsn HW HTW => by
   rw [uqu, hnf] at hx
   obtain ⟨rfl, rfl⟩ : n = 0 ∧ x = reqFr uz9 := by
    rcases n with _ | n
    ·exact ⟨rfl, by injection hx with hx; exact hx.symm⟩
    ·cases hx
   rw [uqu, wka] at HW ⊢
   have hd := vyw uvh
   have hdk : (decQR (reqFr uz9).pl).2 = 0 ∧ (decQR (reqFr uz9).pl).1.kind = 9 := by
    show (decQR (encQ uz9)).2 = 0 ∧ (decQR (encQ uz9)).1.kind = 9
    rw [hd]; exact ⟨rfl, rfl⟩
   refine wx5 HW (by decide) (vw4 ((uxn _).1 ujg)) HTW (reqFr uz9) (uyt uvh) hdk ?_ ?_ rfl rfl hdk.1
   ·show (doR _ (decQR (encQ uz9)).1).code = 0
    rw [hd]; exact vjy
   ·intro i hi
    have h := vwh (newH uq3) 0 (uz8 uz9) i
    rw [wkd] at h
    have h2 : (((newH uq3).feed 0 (uz8 uz9)).len i) = (encs (((newH uq3).feed 0 (uz8 uz9)).c i).waits).length := rfl
    omega))
 rw [uqu, vkd] at HSd
 have HH3 := zrj H3
 clear H3 HBy HH2 hbs hnf hb3 M2
 generalize bstr (uz8 uz9) = bs at *
 go_wp2_with fail
 refine HSd.out.mono ?_
 rintro e w4 ⟨rfl, ws4, H4, C4⟩
 have hB4 := hB3.trans ((C4.under HH3.out).mono hB1.size)
 have M4 := M3.hub HH3.out C4 (fun k hk => by have := hk.2; omega)
 clear H4 C4 HSd M3 HH3
 have hna := vwr (fs := []) (by simp) hgf
 rw [ujs, List.nil_append] at hna
 have hel := vqp _ hgf
 have HPu := zrj (uj5 f fd' _ uzm _ (bstr (encs [(⟨3, 4, encP 0 4⟩ : Fr), ⟨3, 1, (encR 3 uq3).1⟩])) w4 w.heap.size M4 (fun t ht => by cases ht) (by rw [uq0]; have h2 : [(⟨3, 4, encP 0 4⟩ : Fr), ⟨3, 1, (encR 3 uq3).1⟩].length = 2 := rfl; omega) (by rw [uqu]; show (newF [] _).length <= _; rw [hna.1]; decide) (fun W hW => hT.below (hB4.trans hW)) hB4.size ⟨hf0, hfd0⟩)
 have hpl : (newF uzm.L (encs [(⟨3, 4, encP 0 4⟩ : Fr), ⟨3, 1, (encR 3 uq3).1⟩])).length = 2 := by show (newF [] _).length = 2; rw [hna.1]; rfl
 have hpc : uzm.code (encs [(⟨3, 4, encP 0 4⟩ : Fr), ⟨3, 1, (encR 3 uq3).1⟩]) = 0 := by
  show (if (uze none (newF [] _)).2 = 0 then errF ([] ++ _) else (uze none (newF [] _)).2) = 0
  rw [hna.1, vjg, List.nil_append, hna.2]; rfl
 have hps : (uzm.push (encs [(⟨3, 4, encP 0 4⟩ : Fr), ⟨3, 1, (encR 3 uq3).1⟩])).st = some uq3 := by
  show (uze none (newF [] _)).1 = _
  rw [hna.1, vjg]
 rw [uqu, hpl, hpc] at HPu
 generalize uzm.push (encs [(⟨3, 4, encP 0 4⟩ : Fr), ⟨3, 1, (encR 3 uq3).1⟩]) = x5 at *
 generalize bstr (encs [(⟨3, 4, encP 0 4⟩ : Fr), ⟨3, 1, (encR 3 uq3).1⟩]) = outb at *
 clear hna hel hpl hpc M4 hgf
 go_wp2_with fail
 refine HPu.out.mono ?_
 rintro e w5 ⟨rfl, v5, R5, M5, T5, hR5⟩
 have hB5 := hB4.trans (T5.below (B := w.heap.size) (fun k hk => by rcases hk with rfl | rfl; exact hf0; exact hfd0) hB4.size)
 have hpt := M5.s
 rw [hps] at hpt
 obtain ⟨b, p1, p2, p3, c1, c2, c3, rfl, hbb, _, hmS, _, _, _⟩ := hpt
 have F := (uxn _).1 ujg
 have HSt := zrj (uwe f fd' b uq3 p1 p2 p3 c1 c2 c3 w5 M5.b hbb hmS (by have := F.nj; omega) (by have := F.nn; omega) (by have := F.nl; omega))
 clear HPu T5 hR5 M5 hbb hmS hps F
 go_wp2_with fail
 refine HSt.out.mono ?_
 rintro e w6 ⟨q1, q2, q3, d1, d2, d3, rfl, hO, hb6⟩
 have hB6 := hB5.trans (hb6.mono hB5.size)
 have hb7 : Below w6.heap.size w6 (w6.alloc (.cells (stv uq3 q1 q2 q3 d1 d2 d3) 35)) := (zri _ _).alloc (zra _) _
 have bS := Blk.new w6 35 (stv uq3 q1 q2 q3 d1 d2 d3)
 have hM7 := (hO.below hb7).m
 have hB7 := hB6.trans (hb7.mono hB6.size)
 clear hO hb6 hb7 HSt
 go_upto_region 9 with (first | (refine uqf rfl _ _ _ rfl rfl 35 _ (stv uq3 q1 q2 q3 d1 d2 d3) rfl uqg rfl (uxr _ _ _ _ _ _ _ _ _ _) ?_))
 generalize w6.alloc _ = w7 at *
 generalize w6.heap.size = g6 at *
 have hM8 := hM7.tchN (HTch.of_below (O := fun _ => False) (zri w7.heap.size w7).drew) (fun _ _ _ h => h) (fun _ _ _ h => h) (fun _ _ _ h => h)
 have hB8 := hB7.drew
 have bS8 := bS.drew
 refine wp_region_held_drew (S := fun W => Blk W g6 35 (stv uq3 q1 q2 q3 d1 d2 d3)) (by kernel_rfl) bS8 (fun hHeld => ?_)
 generalize w7.drew = w8 at *
 clear hM7 hB7 bS
 refine tq 0 ?_
 refine tq 1 ?_
 refine tq 2 ?_
 refine tq 3 ?_
 refine tq 4 ?_
 refine tq 5 ?_
 refine tq 6 ?_
 refine tq 7 ?_
 refine tq 8 ?_
 refine tq 9 ?_
 refine tq 10 ?_
 refine tr 11 rfl (fun K hK => ?_)
 go_simp
 refine (vvm w8).mono ?_
 rintro e w9 ⟨bj, bn, bl, rfl, x1, x2, x3, hb9, hlt⟩
 have bS9 := bS8.below hb9 bS8.lt
 have hM9 := hM8.tchN (HTch.of_below (O := fun _ => False) hb9) (fun _ _ _ h => h) (fun _ _ _ h => h) (fun _ _ _ h => h)
 have hB9 := hB8.trans (hb9.mono hB8.size)
 have hm : StM w9 w9.heap.size (some ⟨bj, 0, none⟩) (some ⟨bn, 0, none⟩) (some ⟨bl, 0, none⟩) uq3 := ⟨.of_blk (by decide) x1 rfl, .of_blk (by decide) x2 rfl, .of_blk (by decide) x3 rfl⟩
 refine hK.out _ _ bS9 (fun hHeld => ?_)
 clear hK K x1 x2 x3 bS8 hM8 hB8
 (try simp only [Act.put, ma, mb, mc, md, me, mf])
 refine tr 12 rfl (fun K hK => ?_)
 go_simp
 have HR := vw2 uq3 uq3 q1 q2 q3 (some ⟨bj, 0, none⟩) (some ⟨bn, 0, none⟩) (some ⟨bl, 0, none⟩) d1 d2 d3 2 1 1 w9 hM9 hm vxt vxt
 rw [decide_eq_true rfl] at HR
 refine HR.mono ?_
 rintro e w10 ⟨rfl, hb10⟩
 have hB10 := hB9.trans (hb10.mono hB9.size)
 refine hK.out _ _ (bS9.below hb10 bS9.lt) (fun hHeld => ?_)
 clear hK K HR
 (try simp only [Act.put, ma, mb, mc, md, me, mf])
 refine tq 13 ?_
 refine tq 14 ?_
 refine wpAnyH_done (by kernel_rfl) ?_ _
 go_wp2_with fail
 go_ret
 exact ⟨rfl, hB10⟩
def folOf (fs : List Fr) : FolD := ⟨encs fs, (uze none fs).1⟩
theorem wqe : folOf [] = uzm := by unfold folOf uzm; rw [ujs]; rfl
theorem vwj (fs : List Fr) : FolOk (folOf fs).st := vqs (fun t h => by cases h) fs
theorem uv4 {fs : List Fr} (hg : ∀ x ∈ fs, ux7 x) {y : Fr} (hy : ux7 y) : newF (folOf fs).L (wireF y.ver y.kind y.pl) = [y] ∧ errF ((folOf fs).L ++ wireF y.ver y.kind y.pl) = 0 := wkc hg hy
theorem vxe {fs : List Fr} (hg : ∀ x ∈ fs, ux7 x) {y : Fr} (hy : ux7 y) : (folOf fs).push (wireF y.ver y.kind y.pl) = folOf (fs ++ [y]) := by
 unfold FolD.push
 rw [(uv4 hg hy).1]
 unfold folOf
 simp only
 rw [uzk, uvp, vk6]
theorem vk7 {fs : List Fr} (hg : ∀ x ∈ fs, ux7 x) {y : Fr} (hy : ux7 y) : (folOf fs).code (wireF y.ver y.kind y.pl) = (folFr (folOf fs).st y).2 := by
 unfold FolD.code
 rw [(uv4 hg hy).1, (uv4 hg hy).2]
 unfold uze folGo
 simp only [List.foldl_cons, List.foldl_nil, if_true]
 split
 ·rename_i h; rw [h]
 ·rfl
theorem wj1 (fs : List Fr) (y : Fr) : (folOf (fs ++ [y])).st = (folFr (folOf fs).st y).1 := by
 unfold folOf
 simp only
 rw [vjf]
 rfl
theorem xx2 {s : St} (h : (sfrR 3 s).2 = 0) : uqq s = 0 ∧ ux7 ⟨3, 1, encS 3 s⟩ ∧ (sfrR 3 s).1 = wireF 3 1 (encS 3 s) := by
 unfold sfrR at h ⊢
 by_cases h0 : (encR 3 s).2 ≠ 0
 ·rw [if_pos h0] at h; exact absurd h h0
 rw [if_neg h0] at h ⊢
 obtain ⟨he0, _, hc, _⟩ := encR_ok (v := 3) (s := s) (by omega)
 have he : (encR 3 s).1 = encS 3 s := by rw [he0]
 rw [he] at h ⊢
 unfold encF at h ⊢
 by_cases hg : goodF 3 1
 ·rw [if_pos hg] at h ⊢
  by_cases hl : 6000 < (encS 3 s).length
  ·rw [if_pos hl] at h; cases h
  ·rw [if_neg hl]
   exact ⟨hc, ⟨⟨by show 1 <= 3; decide, by show 3 <= 3; decide⟩, ⟨by show 1 <= 1; decide, by show 1 <= 4; decide⟩, by show (encS 3 s).length <= 6000; omega⟩, rfl⟩
 ·rw [if_neg hg] at h; cases h
theorem ww0 {fs : List Fr} (hg : ∀ x ∈ fs, ux7 x) {s : St} (h : (sfrR 3 s).2 = 0) :
  newF (folOf fs).L (sfrR 3 s).1 = [⟨3, 1, encS 3 s⟩] ∧ (folOf fs).code (sfrR 3 s).1 = 0 ∧ ((folOf fs).push (sfrR 3 s).1).st = some s := by
 obtain ⟨hc, hy, e⟩ := xx2 h
 rw [e]
 refine ⟨(uv4 hg hy).1, ?_, ?_⟩
 ·have := vk7 hg hy
  rw [uy8 hc] at this
  exact this
 ·have := vxe hg hy
  rw [this, wj1, uy8 hc]
theorem push_app (x : FolD) (a b : List UInt8) : (x.push a).push b = x.push (a ++ b) ∧ (newF x.L a).length + (newF (x.push a).L b).length = (newF x.L (a ++ b)).length := by
 have h1 := uwl x.L a
 have h2 := uwl (x.L ++ a) b
 have h3 := uwl x.L (a ++ b)
 rw [<- zrh x.L a b, <- h2, <- h1, zrh] at h3
 have h4 := List.append_cancel_left h3
 refine ⟨?_, by rw [h4, zrb]; rfl⟩
 unfold FolD.push
 simp only
 rw [h4, vk6, zrh]
theorem wkb (L : List UInt8) : newF L [] = [] := by
 have h := uwl L []
 rw [List.append_nil] at h
 exact List.append_cancel_left (h.trans (List.append_nil _).symm)
theorem push_nil : uzm.push [] = uzm := by
 unfold FolD.push
 rw [wkb]
 rfl
def flatP (ps : List ByteArray) (k : Nat) : List UInt8 := ((ps.take k).map (·.data.toList)).flatten
theorem vk5 (ps : List ByteArray) : flatP ps 0 = [] := rfl
theorem xqi {ps : List ByteArray} {l : List UInt8} (h : (ps.map (·.data.toList)).flatten = l) : flatP ps ps.length = l := by unfold flatP; rw [List.take_length]; exact h
theorem wvo {ps : List ByteArray} {k : Nat} {x : ByteArray} (hx : ps[k]? = some x) : flatP ps (k + 1) = flatP ps k ++ x.data.toList := by
 unfold flatP
 rw [List.take_add_one, hx, Option.toList_some, List.map_append, List.flatten_append]
 simp
theorem flatP_le {ps : List ByteArray} {l : List UInt8} (h : (ps.map (·.data.toList)).flatten = l) (k : Nat) : (flatP ps k).length <= l.length := by
 rw [<- h]
 unfold flatP
 have : (ps.map (·.data.toList)).flatten = ((ps.take k).map (·.data.toList)).flatten ++ ((ps.drop k).map (·.data.toList)).flatten := by rw [<- List.flatten_append, <- List.map_append, List.take_append_drop]
 rw [this, zrb]
 omega
theorem wzw (f : FolD) (ps : List ByteArray) (k : Nat) (x : ByteArray) (hx : ps[k]? = some x) :
  (f.push (flatP ps k)).push x.data.toList = f.push (flatP ps (k + 1)) ∧ (newF f.L (flatP ps k)).length + (newF (f.push (flatP ps k)).L x.data.toList).length = (newF f.L (flatP ps (k + 1))).length ∧ x.data.toList.length <= (flatP ps (k + 1)).length := by
 rw [wvo hx]
 obtain ⟨h1, h2⟩ := push_app f (flatP ps k) x.data.toList
 exact ⟨h1, h2, by rw [zrb]; omega⟩
def stOr (o : Option St) : St := o.getD uks
theorem xx8 {o : Option St} (h : FolOk o) : StSz (stOr o) := by
 cases o with
 | none => exact ⟨(fun x hx => by cases hx), (fun x hx => by cases hx), (fun x hx => by cases hx), Nat.zero_le _, Nat.zero_le _, Nat.zero_le _⟩
 | some t => exact ((uxn t).1 (h t rfl)).sz
theorem vx6 {w : World} {f fd : Nat} {R : Nat -> Prop} {x : FolD} {v : Value} (M : FolM w f fd R x v) (hok : FolOk x.st) :
  Calls prog 11 #[.pointer (some ⟨f, 0, none⟩)] w fun e w' => ∃ q1 q2 q3 d1 d2 d3, e = .returned (.tuple #[.agg #[.int .i64 (stOr x.st).rev, .slice q1 (stOr x.st).jobs.length d1, .slice q2 (stOr x.st).nodes.length d2, .slice q3 (stOr x.st).leases.length d3], .bool x.st.isSome]) ∧ StM w' w'.heap.size q1 q2 q3 (stOr x.st) ∧ Below w.heap.size w w' := by
 have hs := M.s
 cases hx : x.st with
 | none =>
  rw [hx] at hs
  obtain rfl : v = .pointer none := hs
  refine (vqt f fd w M.b).mono ?_
  rintro e w' ⟨rfl, hb⟩
  exact ⟨none, none, none, 0, 0, 0, rfl, ⟨.nil_, .nil_, .nil_⟩, hb⟩
 | some t =>
  rw [hx] at hs
  obtain ⟨b, p1, p2, p3, c1, c2, c3, rfl, hbb, _, hm, _, _, _⟩ := hs
  have F := (uxn t).1 (hok t hx)
  refine (uwe f fd b t p1 p2 p3 c1 c2 c3 w M.b hbb hm (by have := F.nj; omega) (by have := F.nn; omega) (by have := F.nl; omega)).mono ?_
  rintro e w' ⟨q1, q2, q3, d1, d2, d3, rfl, hO, hb⟩
  exact ⟨q1, q2, q3, d1, d2, d3, rfl, hO.m, hb⟩
end Go.Proofs.YtibiankbmhdljabGreatDoor
