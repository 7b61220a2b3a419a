/-
  Several texts in one: HubSl, HubGl, HubNl, HubBpl, HubUl, BytL.
-/
import Derived.Test.YtibiankbmhdljabGreatDoorPgHubA
import Derived.Test.YtibiankbmhdljabGreatDoorPgReqD
import Derived.Test.YtibiankbmhdljabGreatDoorPgSvDoL
set_option linter.all false
set_option maxHeartbeats 16000000
set_option maxRecDepth 100000
namespace Go.Proofs.YtibiankbmhdljabGreatDoor
open Go.Proofs.Tryz
open Go.RowKit
theorem xql (i : Nat) (c : UInt8) : badAt i c <= 4 := by
 unfold badAt
 repeat' split
 all_goals omega
theorem xxw : ∀ (f i : Nat) (l : List UInt8), hdE f i l <= 4
 | 0, _, _ => by show 0 <= 4; decide
 | _ + 1, _, [] => by show 0 <= 4; decide
 | f + 1, i, c :: r => by
  unfold hdE
  split
  ·exact xxw f _ _
  ·exact xql _ _
theorem decF_low (l : List UInt8) : (decF l).e <= 9 := by
 unfold decF
 split
 ·exact zrc (xxw _ _ _) (by decide)
 split
 ·show 3 <= 9; decide
 split
 ·exact vyv _ _ _ _
 split
 ·show 2 <= 9; decide
 split
 ·show 3 <= 9; decide
 split
 ·show 5 <= 9; decide
 ·show 0 <= 9; decide
theorem wq6 : ∀ (f : Nat) (l : List UInt8), (feedN f l).e <= 9
 | 0, _ => by show 3 <= 9; decide
 | f + 1, l => by
  unfold feedN
  split
  ·exact wq6 f _
  ·exact decF_low l
theorem errF_low (L : List UInt8) : errF L <= 9 := by
 unfold errF
 split
 ·decide
 ·exact wq6 _ _
def HubD.mid (h : HubD) (k : Nat) (s : List UInt8) (n : Nat) : HubD := (h.feed k s).frames k ((newF (h.c k).L s).take n)
theorem wk8 (h : HubD) (k : Nat) (s : List UInt8) : h.mid k s 0 = h.feed k s := by unfold HubD.mid; rw [List.take_zero]; rfl
theorem mid_step (h : HubD) (k : Nat) (s : List UInt8) (n : Nat) (x : Fr) (hx : (newF (h.c k).L s)[n]? = some x) : h.mid k s (n + 1) = HubD.step k (h.mid k s n) x := by
 unfold HubD.mid
 rw [List.take_add_one, hx, Option.toList_some, vv4]
 rfl
theorem mid_all (h : HubD) (k : Nat) (s : List UInt8) : (h.mid k s (newF (h.c k).L s).length).ended k (errF ((h.c k).L ++ s)) = h.work k s := by
 unfold HubD.mid
 rw [List.take_length]
 rfl
theorem mid_srv {h : HubD} (hv : SrvOk h.srv) (k : Nat) (s : List UInt8) (n : Nat) : SrvOk (h.mid k s n).srv := vxw (h := h.feed k s) hv k
theorem HubC.asd {w w' : World} {g sv : Nat} {fd : Nat -> Nat} {ws : Nat -> Value} {k : Nat} (hk : k < 8) (ha : Asd w (fd k) w') : HubC w g sv fd ws w' ws := HubC.grown ha (fun j hj => by injection hj with hj; subst hj; exact .inr (.inr (.inl ⟨k, hk, rfl⟩)))
theorem hsend_by {w : World} {B g sv : Nat} {fd : Nat -> Nat} {ws : Nat -> Value} {h : HubD} (H : HubM w B g sv fd ws h) {k : Nat} (hk : k < 8) (hv : SrvOk h.srv) (HTb : ∀ W, Below B w W -> Tabs W) (s : ByteArray) (hs : s.size <= 1152921504606846976)
  (hc : (newF (h.c k).L s.data.toList).length <= 4398046511104) (hz : ∀ n i, i < 8 -> (encs ((h.mid k s.data.toList n).c i).waits).length <= 140737488200000) (ho : (h.c k).closed = false)
  (HFr : ∀ (n : Nat) (x : Fr), (newF (h.c k).L s.data.toList)[n]? = some x -> ∀ (W : World) (wsn : Nat -> Value), HubM W B g sv fd wsn (h.mid k s.data.toList n) -> (∀ W', Below B W W' -> Tabs W') ->
   Calls prog 56 #[.pointer (some ⟨g, 0, none⟩), .pointer (some ⟨g, 1 + k * 4, none⟩), .agg #[.int .i64 (x.ver : Int), .int .i64 (x.kind : Int), .string (bstr x.pl)]] W fun e w' => e = .returned (.tuple #[]) ∧ HubQ W B g sv fd wsn ((h.mid k s.data.toList n).frame k x) w') :
  Calls prog 21 #[.pointer (some ⟨g, 0, none⟩), .int .i64 (k : Int), .string s] w fun e w' => e = .returned (.tuple #[.string (bstr (encs (h.out k s.data.toList))), .int .i64 0]) ∧ HubQ w B g sv fd ws (h.send k s.data.toList) w' := by
 have c1 : w.cell? ⟨g, 1 + k * 4 + 1, none⟩ = some (.bool false) := by rw [H.at_cl hk, ho]
 have c2 := H.at_fp hk
 have HO := zrj (xxy H hk)
 have HP := zrj (vyp (fd k) (h.c k).L s w (H.f k hk) hs (fun outs ho => by rw [uw0 ho]; exact hc))
 have HH := zrj H
 have HN := zrj (fun outs (ho : (feedF (h.c k).L).out ++ outs = (feedF ((h.c k).L ++ s.data.toList)).out) => uw0 ho)
 have HV := zrj (fun n => mid_srv hv k s.data.toList n)
 have HT := zrj HTb
 have HZ := zrj hz
 have HG := zrj (wxi (h.c k).L s.data.toList)
 have HST := zrj (mid_step h k s.data.toList)
 have HZE := zrj (wk8 h k s.data.toList)
 have HAL := zrj (mid_all h k s.data.toList)
 have HER := zrj (errF_low ((h.c k).L ++ s.data.toList))
 have hou : h.out k s.data.toList = ((h.work k s.data.toList).c k).waits := by unfold HubD.out; rw [if_neg (by rw [ho]; simp)]
 have hse : h.send k s.data.toList = (h.work k s.data.toList).flush k := by unfold HubD.send; rw [if_neg (by rw [ho]; simp)]
 rw [hou, hse]
 have hL := zrj hc
 have HFR := zrj HFr
 clear H hs hc hz HTb hv hou hse ho HFr
 go_enter func21, ntmps21
 go_wp2_with fail
 refine HO.out.mono ?_
 rintro e w1 ⟨rfl, rfl⟩
 go_wp2_with fail
 refine HP.out.mono ?_
 rintro e w2 ⟨pa, ca, outs, rfl, hel, hge, hou, hfe, hasd⟩
 have hne := HN.out outs hou
 rw [<- hne] at HST HG HAL hL HFR
 have H2 := HH.out.fed hk hfe hasd
 rw [<- HZE.out] at H2
 have HH2 := zrj H2
 have C2 := zrj (HubC.asd (g := g) (sv := sv) (ws := ws) hk hasd)
 have HB2 := zrj (C2.out.under HH.out)
 have HNO := zrj (show ∀ a, pa = some a -> ¬ vqe g sv fd ws a.block from fun a ha hown => by have h1 := hge a ha; have h2 := (HH.out.own_ge hown).2; omega)
 have HEL := zrj hel
 have hlen : outs.length <= 4398046511104 := hL.out
 clear HP HO HN HZE hel hge hou hfe hasd hne c1 c2
 generalize errF ((h.c k).L ++ s.data.toList) = er at *
 go_wp2_with fail
 go_loopw [35] (fun i wr => ∃ (n : Nat) (wsn : Nat -> Value), n <= outs.length ∧ i = .int .i64 n ∧ HubM wr B g sv fd wsn (h.mid k s.data.toList n) ∧ HubC w2 g sv fd ws wr wsn) (fun i _ => outs.length - (intOf i).toNat)
 case atStart => exact ⟨0, ws, Nat.zero_le _, rfl, H2, HubC.refl _ _ _ _ _⟩
 case round =>
  obtain ⟨n, wsn, hn, rfl, Hn, Cn⟩ := hrel
  clear H2
  by_cases hlt : n < outs.length
  ·have hx : outs[n]? = some outs[n] := zrd hlt
   have hgx := HG.out outs[n] (List.getElem_mem hlt)
   have hst := HST.out n outs[n] hx
   have HFx := zrj (HFR.out n outs[n] hx)
   generalize outs[n] = x at *
   obtain ⟨a, rfl, hab, _, hat⟩ := (HEL.out.tch (zra _) Cn.t HNO.out).at_ (k := n) (r := rowFr x) (by rw [zrg, hx]; rfl)
   have hb1 : Below wr.heap.size wr (wr.alloc (.cells #[.int .i64 (x.ver : Int), .int .i64 (x.kind : Int), .string (bstr x.pl)] 44)) := (zri _ _).alloc (zra _) _
   have bx := Blk.new wr 44 #[.int .i64 (x.ver : Int), .int .i64 (x.kind : Int), .string (bstr x.pl)]
   have Hn1 := Hn.below hb1
   have HCn1 := zrj (Cn.below hb1)
   have k1 := Hn1.at_cl hk
   have HHn := zrj Hn1
   have HST2 := zrj hst
   have HGX := zrj hgx
   clear Hn Cn hx hgx hst Hn1 hab hb1
   go_upto_region 10 with (first | (refine uqb rfl _ _ rfl (a.add (n * 3)) rfl [Value.int .i64 (x.ver : Int), Value.int .i64 (x.kind : Int), Value.string (bstr x.pl)] _ hat underlying44 rfl uqu ?_) | (refine uqd rfl _ _ _ rfl rfl 44 _ #[.int .i64 (x.ver : Int), .int .i64 (x.kind : Int), .string (bstr x.pl)] rfl uqu rfl (uwu _ _ _) ?_))
   generalize wr.alloc _ = W1 at *
   generalize wr.heap.size = gf at *
   generalize hcl : ((h.mid k s.data.toList n).c k).closed = cl at *
   cases cl
   ·have HS := zrj (HST2.out.trans (by unfold HubD.step; rw [if_neg (by rw [hcl]; simp)]))
    have HF := zrj (HFx.out W1 wsn HHn.out (fun W hW => HT.out W ((HB2.out.trans (HCn1.out.under HH2.out)).trans hW)))
    clear hcl HST2
    go_wp2_with (first | (refine uqn (by rfl) _ _ rfl gf rfl _ _ bx _ underlying44 rfl uqu ?_))
    refine HF.out.mono ?_
    rintro e w3 ⟨rfl, ws3, H3, C3⟩
    have HC3 := zrj (HCn1.out.trans C3)
    have HH3 := zrj H3
    clear H3 C3 bx k1 hat
    go_wp2_with fail
    go_roundw
    case rel => exact ⟨n + 1, ws3, by omega, by go_num, by rw [HS.out]; exact HH3.out, HC3.out⟩
    case measure => simp [intOf]; omega
   ·have HS := zrj (HST2.out.trans (by unfold HubD.step; rw [if_pos hcl]))
    clear hcl HST2 bx hat
    go_wp2_with fail
    go_roundw
    case rel => exact ⟨n + 1, wsn, by omega, by go_num, by rw [HS.out]; exact HHn.out, HCn1.out⟩
    case measure => simp [intOf]; omega
  ·obtain rfl : n = outs.length := by omega
   have k1 := Hn.at_cl hk
   have HHn := zrj Hn
   have HCn := zrj (C2.out.trans Cn)
   have FV := zrj (HV.out outs.length)
   have HZn := zrj (HZ.out outs.length k hk)
   clear Hn Cn HST HG hlt
   generalize hmid : h.mid k s.data.toList outs.length = hm at *
   clear hmid
   by_cases he : er = 0
   ·have e0 : ((er : Int) != 0) = false := by rw [he]; rfl
    have HW := zrj (show hm = h.work k s.data.toList by rw [<- HAL.out, he, vvx])
    clear HAL he
    go_wp2_with fail
    refine (uy4 HHn.out hk).mono ?_
    rintro e w3 ⟨rfl, ws3, H3, C3⟩
    go_wp2_with fail
    go_ret2
    rw [<- HW.out]
    exact ⟨rfl, ws3, H3, HCn.out.trans C3⟩
   ·have e0 : ((er : Int) != 0) = true := by rw [bne_iff_ne]; omega
    generalize hcl : (hm.c k).closed = cl at *
    cases cl
    ·have HW := zrj (show hm.close k er = h.work k s.data.toList by rw [<- HAL.out]; unfold HubD.ended; rw [if_pos ⟨he, hcl⟩])
     clear HAL he hcl
     go_wp2_with fail
     refine (www HHn.out hk FV.out.1 er (by have := HER.out; omega) (by have := HZn.out; omega)).mono ?_
     rintro e w3 ⟨rfl, ws3, H3, C3⟩
     have HC3 := zrj (HCn.out.trans C3)
     have HF := zrj (uy4 H3 hk)
     clear C3 H3
     go_wp2_with fail
     refine HF.out.mono ?_
     rintro e w4 ⟨rfl, ws4, H4, C4⟩
     go_wp2_with fail
     go_ret2
     rw [<- HW.out]
     exact ⟨rfl, ws4, H4, HC3.out.trans C4⟩
    ·have HW := zrj (show hm = h.work k s.data.toList by rw [<- HAL.out, vvw hcl])
     clear HAL he hcl
     go_wp2_with fail
     refine (uy4 HHn.out hk).mono ?_
     rintro e w3 ⟨rfl, ws3, H3, C3⟩
     go_wp2_with fail
     go_ret2
     rw [<- HW.out]
     exact ⟨rfl, ws3, H3, HCn.out.trans C3⟩
theorem wvs {q : ReqD} (h : reqE q = 0) : ReqSz q := by
 obtain ⟨hk, hw, hp⟩ := ujg h
 have z : ByteArray.empty.size <= 9223372036854775807 := by decide
 unfold uzo at hw
 unfold partE at hp
 by_cases k1 : q.kind = 1
 ·rw [if_pos k1] at hw hp
  have h1 := (uv4.1 hp).1
  rw [<- hw]
  exact ⟨zrc (uxg h1.1) (by decide), zrc (uke h1.2) (by decide), z, z, z, z, z⟩
 rw [if_neg k1] at hw hp
 by_cases k2 : q.kind = 2
 ·rw [if_pos k2] at hw hp
  have h1 := (uji.1 hp).1
  rw [<- hw]
  exact ⟨z, z, zrc (uxg h1.1) (by decide), zrc (uke h1.2) (by decide), z, z, z⟩
 rw [if_neg k2] at hw hp
 by_cases k5 : q.kind = 5
 ·rw [if_pos k5] at hw hp
  have h1 := vxg hp
  rw [<- hw]
  exact ⟨z, z, z, z, zrc (uxg h1.1) (by decide), zrc (uxg h1.2.1) (by decide), z⟩
 rw [if_neg k5] at hw hp
 by_cases k3 : q.kind = 3 ∨ q.kind = 4 ∨ q.kind = 6
 ·rw [if_pos k3] at hw hp
  have h1 : uq9 q.name = true := by by_cases hn : uq9 q.name = true; exact hn; rw [if_neg hn] at hp; cases hp
  rw [<- hw]
  exact ⟨z, z, z, z, z, z, zrc (uxg h1) (by decide)⟩
 rw [if_neg k3] at hw
 by_cases k7 : q.kind = 7
 ·rw [if_pos k7] at hw
  rw [<- hw]
  exact ⟨z, z, z, z, z, z, z⟩
 rw [if_neg k7] at hw
 rw [<- hw]
 exact ⟨z, z, z, z, z, z, z⟩
theorem wyc {k : Int} {l : List UInt8} {q : ReqD} {r' : List UInt8} (h : pPart k l = .ok q r') : q.kind = k := by
 have hm : ∀ {α : Type} (f : α -> ReqD) (p : List UInt8 -> Res α), (∀ x, (f x).kind = k) -> pMap f p l = .ok q r' -> q.kind = k := by
  intro α f p hf h
  unfold pMap at h
  cases hp : p l with
  | bad e => rw [hp] at h; have h : (Res.bad e : Res ReqD) = .ok q r' := h; cases h
  | ok x r => rw [hp] at h; have h : (Res.ok (f x) r : Res ReqD) = .ok q r' := h; injection h with h1 h2; rw [<- h1]; exact hf x
 unfold pPart at h
 by_cases k1 : k = 1
 ·rw [if_pos k1] at h; exact hm _ _ (fun x => k1.symm) h
 rw [if_neg k1] at h
 by_cases k2 : k = 2
 ·rw [if_pos k2] at h; exact hm _ _ (fun x => k2.symm) h
 rw [if_neg k2] at h
 by_cases k5 : k = 5
 ·rw [if_pos k5] at h; exact hm _ _ (fun x => k5.symm) h
 rw [if_neg k5] at h
 by_cases k3 : k = 3 ∨ k = 4 ∨ k = 6
 ·rw [if_pos k3] at h; exact hm _ _ (fun x => rfl) h
 rw [if_neg k3] at h
 by_cases k7 : k = 7
 ·rw [if_pos k7] at h; exact hm _ _ (fun x => k7.symm) h
 rw [if_neg k7] at h
 unfold pUnit at h
 injection h with h1 h2
 rw [<- h1]
theorem xq3 {k : Int} {r : List UInt8} (hk9 : 1 <= k ∧ k <= 9) (h0 : (finQ (pPart k r)).2 = 0) (hk : (finQ (pPart k r)).1.kind = 9) : k = 9 := by
 have hn : noQ.kind = 0 := rfl
 unfold finQ at hk h0
 cases hp : pPart k r with
 | bad e => rw [hp] at hk; simp only [] at hk; rw [hn] at hk; cases hk
 | ok q r' =>
  rw [hp] at hk h0
  simp only [] at hk h0
  by_cases h1 : r' ≠ []
  ·rw [if_pos h1] at h0; cases h0
  rw [if_neg h1] at h0 hk
  by_cases h2 : reqE q ≠ 0
  ·rw [if_pos h2] at h0; exact absurd h0 h2
  rw [if_neg h2] at hk
  simp only at hk
  have hq := wyc hp
  omega
theorem wj0 (pl : List UInt8) (hd : (decQR pl).2 = 0 ∧ (decQR pl).1.kind = 9) (w : World) (hb : (bstr pl).size <= 4611686018427387904) (hT : Tabs w) :
  Calls prog 98 #[.string (bstr pl)] w fun e w' => uj1 w (decQR (bstr pl).data.toList) e w' := by
 rw [uqt]
 have hk := hd.2
 have h0 := hd.1
 unfold decQR at hk h0 ⊢
 cases hp : pInt pl with
 | bad z => rw [hp] at hk; cases hk
 | ok k r =>
  rw [hp] at hk h0
  simp only [] at hk h0 ⊢
  by_cases hk9 : 1 <= k ∧ k <= 9
  rotate_left
  ·rw [if_neg hk9] at hk; cases hk
  rw [if_pos hk9] at hk h0 ⊢
  exact xz0 (bstr pl) k r (by rw [uqt]; exact hp) (.inr (xq3 hk9 h0 hk)) w hb hT
theorem xjk (q : ReqD) (v : Srv) (g : Nat) (w : World) (hM : SvI w g v) (hv : SrvOk v) (hq : reqE q = 0) (h89 : q.kind = 8 ∨ q.kind = 9) (hT : Tabs w) :
  Calls prog 99 #[.pointer (some ⟨g, 0, none⟩), .agg (qv q)] w fun e w' => wkk w g (doR v q) e w' := by
 have hN : doN v q = (v, 0) := by unfold doN; rw [if_pos hq, vz7 h89]
 have hs : sameT v.st v.st = true := by unfold sameT; simp
 have he : doR v q = ⟨0, none, v⟩ := by
  rcases ujc v q with ⟨h1, h2, h3, he⟩ | ⟨h1, h2, h3, he⟩ | ⟨h1, h2, he⟩ | ⟨h1, he⟩
  ·rw [hN] at h2; rw [hs] at h2; cases h2
  ·rw [hN] at h2; rw [hs] at h2; cases h2
  ·rw [he, hN]
  ·rw [hN] at h1; exact absurd rfl h1
 rw [he]
 exact xjj q v g w hM hv (wvs hq) hT hq h89 v.st v.now (vz7 h89) hs
section
variable {w w' W : World} {O : Nat -> Prop} {B g sv : Nat} {fd : Nat -> Nat} {ws : Nat -> Value} {h : HubD}
theorem OwnR.tch {base c size : Nat} {E : TypeId} {p : Option Addr} {rows : List (List Value)} (hr : OwnR w base E size p c rows) (T : HTch O w w') (hO : ∀ k cs, Blk w k E cs -> ¬ O k) : OwnR w' base E size p c rows := by
 refine ⟨hr.1, hr.2.1, ?_⟩
 rcases hr.2.2 with hx | ⟨g, cap, cur, h1, h2, h3, h4⟩
 ·exact .inl hx
 ·exact .inr ⟨g, cap, cur, h1, h2, T.blk h3 (hO g cur h3), h4⟩
theorem OwnR.offs {base c size k : Nat} {E t : TypeId} {p : Option Addr} {rows : List (List Value)} {cs : Array Value} (hr : OwnR w base E size p c rows) (hg : w.grownBy w' (some k)) (hk : Blk w k t cs) (hne : E ≠ t) : OwnR w' base E size p c rows :=
 hr.tch (O := fun j => j = k) (HTch.of_grown hg (fun j e => by injection e with e; exact e.symm)) (fun j cs' hb e => by subst e; exact absurd rfl (hb.ne_ hk hne))
section
variable {base : Nat} {p1 p2 p3 p4 p5 p6 : Option Addr} {c1 c2 c3 c4 c5 c6 : Nat} {d : uq1}
theorem DelOwn.tch (D : DelOwn w base p1 p2 p3 p4 p5 p6 c1 c2 c3 c4 c5 c6 d) (H : HubM w B g sv fd ws h) (T : HTch (vqe g sv fd ws) w w') : DelOwn w' base p1 p2 p3 p4 p5 p6 c1 c2 c3 c4 c5 c6 d :=
 ⟨D.j.tch T (fun k cs hb => H.other hb (by decide) (by decide) (by decide) (by decide)), D.n.tch T (fun k cs hb => H.other hb (by decide) (by decide) (by decide) (by decide)), D.l.tch T (fun k cs hb => H.other hb (by decide) (by decide) (by decide) (by decide)),
  D.gj.tch T (fun k cs hb => H.other hb (by decide) (by decide) (by decide) (by decide)), D.gn.tch T (fun k cs hb => H.other hb (by decide) (by decide) (by decide) (by decide)), D.gl.tch T (fun k cs hb => H.other hb (by decide) (by decide) (by decide) (by decide))⟩
theorem DelOwn.offs {k : Nat} {t : TypeId} {cs : Array Value} (D : DelOwn w base p1 p2 p3 p4 p5 p6 c1 c2 c3 c4 c5 c6 d) (hg : w.grownBy w' (some k)) (hk : Blk w k t cs) (ht : t = 174 ∨ t = 49) : DelOwn w' base p1 p2 p3 p4 p5 p6 c1 c2 c3 c4 c5 c6 d := by
 refine ⟨D.j.offs hg hk ?_, D.n.offs hg hk ?_, D.l.offs hg hk ?_, D.gj.offs hg hk ?_, D.gn.offs hg hk ?_, D.gl.offs hg hk ?_⟩
 all_goals rcases ht with rfl | rfl <;> decide
end
theorem SvI.offs {v : Srv} (hs : SvI w sv v) {k : Nat} (hg : w.grownBy w' (some k)) {t : TypeId} {cs : Array Value} (hk : Blk w k t cs) (ht : t = 174 ∨ t = 49) : SvI w' sv v := by
 obtain ⟨q1, q2, q3, d1, d2, d3, hM⟩ := hs
 refine ⟨q1, q2, q3, d1, d2, d3, GrB.blk hg hM.b (hM.b.ne_ hk ?_), hM.own.other hg hk ?_ ?_ ?_⟩
 all_goals rcases ht with rfl | rfl <;> decide
theorem HubM.offs (H : HubM w B g sv fd ws h) {k : Nat} (hg : w.grownBy w' (some k)) {t : TypeId} {cs : Array Value} (hk : Blk w k t cs) (ht : t = 174 ∨ t = 49) : HubM w' B g sv fd ws h := by
 have n1 : g ≠ k := H.b.ne_ hk (by rcases ht with rfl | rfl <;> decide)
 refine ⟨H.b.kept hg (fun e => n1 (by injection e with e; exact e.symm)), H.s.offs hg hk ht, fun i hi => (H.f i hi).kept hg (fun e => ?_), H.d, fun i hi => (H.q i hi).kept hg (fun j hj e => ?_), H.e, ⟨H.lo.1, H.lo.2.1, H.lo.2.2.1, zrc H.lo.2.2.2 hg.size⟩⟩
 ·injection e with e
  exact (H.f i hi).ne_ hk (by rcases ht with rfl | rfl <;> decide) e.symm
 ·obtain ⟨c3, h3⟩ := (H.q i hi).own hj
  injection e with e
  exact h3.ne_ hk (by rcases ht with rfl | rfl <;> decide) e.symm
theorem HTch.row (T : HTch O w W) {k : Nat} (hk : w.heap.size <= k) (cs : Array Value) : HTch O w (W.setRow k cs) :=
 ⟨T.os, T.tape, T.output, by simpa using T.size, fun j hj hn => (setRow_other W k j cs (by omega)).trans (T.block j hj hn)⟩
structure FrA (w W : World) (B g sv : Nat) (fd : Nat -> Nat) (ws : Nat -> Value) (h : HubD) (gq : Nat) (qs : Array Value) : Prop where
 H : HubM W B g sv fd ws h
 C : HubC w g sv fd ws W ws
 q : Blk W gq 68 qs
variable {gq : Nat} {qs : Array Value}
theorem FrA.below (A : FrA w W B g sv fd ws h gq qs) (hb : Below W.heap.size W w') : FrA w w' B g sv fd ws h gq qs := ⟨A.H.below hb, A.C.below hb, A.q.below hb A.q.lt⟩
theorem FrA.alloc (A : FrA w W B g sv fd ws h gq qs) (o : Obj) : FrA w (W.alloc o) B g sv fd ws h gq qs := A.below ((zri _ _).alloc (zra _) o)
theorem FrA.serve (A : FrA w W B g sv fd ws h gq qs) {v : Srv} (hs : SvI w' sv v) (hg : W.grownBy w' (some sv)) : FrA w w' B g sv fd ws ⟨v, h.c⟩ gq qs :=
 ⟨A.H.serve hs hg, A.C.trans (HubC.grown hg (fun k hk => by injection hk with hk; exact .inr (.inl hk.symm))), vqn A.H.s hg A.q (by decide)⟩
theorem FrA.row (A : FrA w W B g sv fd ws h gq qs) {k : Nat} {t : TypeId} {cs : Array Value} (hk : Blk W k t cs) (ht : t = 174 ∨ t = 49) (hn : w.heap.size <= k) (cs' : Array Value) : FrA w (W.setRow k cs') B g sv fd ws h gq qs :=
 ⟨A.H.offs (growR W k cs') hk ht, ⟨A.C.t.row hn cs', A.C.n⟩, A.q.far_row (A.q.ne_ hk (by rcases ht with rfl | rfl <;> decide)) cs'⟩
theorem FrA.new (A : FrA w W B g sv fd ws h gq qs) : w.heap.size <= W.heap.size := A.C.size
end
theorem wz4 {w : World} {B g sv : Nat} {fd : Nat -> Nat} {ws : Nat -> Value} {h : HubD} (H : HubM w B g sv fd ws h) {k : Nat} (hk : k < 8) (hv : SrvOk h.srv) (HTb : ∀ W, Below B w W -> Tabs W) (x : Fr) (hg : ux3 x) (hdk : (decQR x.pl).2 = 0 ∧ (decQR x.pl).1.kind = 9) (hcd : (doR h.srv (decQR x.pl).1).code = 0) (hz : ∀ i, i < 8 -> (encs (h.c i).waits).length <= 140737488200000) (h1 : x.ver = 3) (h2 : x.kind = 3) (hd : (decQR x.pl).2 = 0) :
  Calls prog 56 #[.pointer (some ⟨g, 0, none⟩), .pointer (some ⟨g, 1 + k * 4, none⟩), .agg #[.int .i64 (x.ver : Int), .int .i64 (x.kind : Int), .string (bstr x.pl)]] w fun e w' => e = .returned (.tuple #[]) ∧ HubQ w B g sv fd ws (h.frame k x) w' := by
 have hq9 := hdk.2
 have hb0 : Below w.heap.size w (w.alloc (.cells #[.int .i64 (x.ver : Int), .int .i64 (x.kind : Int), .string (bstr x.pl)] 44)) := (zri _ _).alloc (zra _) _
 have bx0 := Blk.new w 44 #[.int .i64 (x.ver : Int), .int .i64 (x.kind : Int), .string (bstr x.pl)]
 have hlo := H.lo.2.2.2
 have n1 : ((x.ver : Int) != 3) = false := by rw [bne_eq_false_iff_eq]; omega
 have n2 : ((x.kind : Int) != 3) = false := by rw [bne_eq_false_iff_eq]; omega
 have hpl := hg.2.2
 have HD := zrj (wj0 x.pl hdk (w.alloc (.cells #[.int .i64 (x.ver : Int), .int .i64 (x.kind : Int), .string (bstr x.pl)] 44)) (by rw [uqw]; omega) (HTb _ (hb0.mono hlo)))
 have hfr : h.frame k x = h.asked k (decQR x.pl).1 := by unfold HubD.frame; rw [if_neg (by omega), if_neg (by rw [hd]; simp)]
 have hre := decQR_ok hd
 rw [show (bstr x.pl).data.toList = x.pl from uqt _] at HD
 rw [hfr]
 generalize (decQR x.pl) = dq at *
 obtain ⟨q, er⟩ := dq
 simp only at hd hre HD hq9 hcd ⊢
 have h89 : q.kind = 8 ∨ q.kind = 9 := .inr hq9
 subst hd
 have z0 : (((0 : Nat) : Int) != 0) = false := rfl
 have HSQ := zrj (wvs hre)
 have HVo := zrj (vzl hv q).1
 have HLe := zrj (doR_le h.srv q)
 have hask : h.asked k q = (if (doR h.srv q).told.isSome = true then (h.told k q).changed (toldD (doR h.srv q)) else h.told k q) := by
  unfold HubD.asked toldD
  cases hc : (doR h.srv q).told <;> simp
 have HAs := zrj hask
 have HTo := zrj (xjp h k q hk)
 have HNo := zrj (fun hc : (doR h.srv q).code ≠ 0 ∨ q.kind = 8 ∨ q.kind = 9 => (hc.elim (fun h1 => (uwr h1).1) (fun h1 => (wks h1).1) : (doR h.srv q).told = none))
 have HDo := zrj (fun (W : World) (hM : SvI W sv h.srv) (hT : Tabs W) => xjk q h.srv sv W hM hv hre h89 hT)
 have HH := zrj H
 have HZ := zrj hz
 have HT := zrj HTb
 have hzr := vzz
 have hzd := uz0
 clear hfr h1 h2 hz hv HTb hg hpl hre hask h89
 have HQ9 := zrj hq9
 have HCD := zrj hcd
 clear hq9 hcd hdk
 generalize hrr : doR h.srv q = r at *
 clear hrr
 go_enter func56, ntmps56
 go_wp2_with fail
 generalize w.alloc _ = w0 at *
 have c0 : w0.cell? ⟨w.heap.size, 0, none⟩ = some (.int .i64 (x.ver : Int)) := bx0.cell 0
 have c1 : w0.cell? ⟨w.heap.size, 1, none⟩ = some (.int .i64 (x.kind : Int)) := bx0.cell 1
 have c2 : w0.cell? ⟨w.heap.size, 2, none⟩ = some (.string (bstr x.pl)) := bx0.cell 2
 go_wp2_with fail
 refine HD.out.mono ?_
 rintro e w1 ⟨rfl, hb1⟩
 have hbA := hb0.trans (hb1.mono hb0.size)
 have hbB := hbA.alloc hbA.size (.cells (qv q) 68)
 have bq := Blk.new w1 68 (qv q)
 clear c0 c1 c2 hb1 HD hb0 bx0 n1 n2
 go_upto_region 6 with (first | (refine uqd rfl _ _ _ rfl rfl 68 _ (qv q) rfl uqe rfl (by simp [Value.oneCell']) ?_))
 have hgq : w.heap.size <= w1.heap.size := hbA.size
 have A2 : FrA w (w1.alloc (.cells (qv q) 68)) B g sv fd ws h w1.heap.size (qv q) := ⟨HH.out.below hbB, (HubC.refl w g sv fd ws).below hbB, bq⟩
 generalize w1.alloc _ = w2 at *
 generalize w1.heap.size = gq at *
 have HA2 := zrj A2
 clear hbA bq hbB
 go_cut [8, 9, 10] (fun v8 v9 v10 wx => ∃ gr gd x1 x2 x3 x4 x5 x6 y1 y2 y3 y4 y5 y6, v8 = .pointer (some ⟨gr, 0, none⟩) ∧ v9 = .pointer (some ⟨gd, 0, none⟩) ∧ v10 = .bool r.told.isSome ∧ FrA w wx B g sv fd ws ⟨r.srv, h.c⟩ gq (qv q) ∧ Blk wx gr 174 #[.int .i64 (r.code : Int), .int .i64 r.srv.st.rev] ∧ Blk wx gd 49 #[.int .i64 (toldD r).frm, .int .i64 (toldD r).upto, .slice x1 (toldD r).jobs.length y1, .slice x2 (toldD r).nodes.length y2, .slice x3 (toldD r).leases.length y3, .slice x4 (toldD r).gj.length y4, .slice x5 (toldD r).gn.length y5, .slice x6 (toldD r).gl.length y6] ∧ DelOwn wx 0 x1 x2 x3 x4 x5 x6 y1 y2 y3 y4 y5 y6 (toldD r))
 case first =>
  have A3 := A2.below (zri _ w2).drew
  clear A2 HA2
  have G0 : Blk w2.drew g 116 (hubA (.pointer (some ⟨sv, 0, none⟩)) (cellC h fd ws)) ∧ Blk w2.drew gq 68 (qv q) := ⟨A3.H.b, A3.q⟩
  refine wp_region_held_drew (S := fun W => Blk W g 116 (hubA (.pointer (some ⟨sv, 0, none⟩)) (cellC h fd ws)) ∧ Blk W gq 68 (qv q)) (by kernel_rfl) G0 (fun hHeld => ?_)
  generalize w2.drew = W0 at *
  refine tq 0 ?_
  refine tq 1 ?_
  refine tq 2 ?_
  refine tq 3 ?_ (hv := by intro w5 hw5; obtain ⟨ha_, hb_⟩ := hw5; have f0 : w5.cell? ⟨g, 0, none⟩ = some (.pointer (some ⟨sv, 0, none⟩)) := (ha_.cell 0).trans xx1; go_simp; (try with_reducible rfl))
  refine tq 4 ?_ (hv := by intro w5 hw5; obtain ⟨ha_, hb_⟩ := hw5; have f0 : w5.cell? ⟨g, 0, none⟩ = some (.pointer (some ⟨sv, 0, none⟩)) := (ha_.cell 0).trans xx1; have q1 := hb_.cell; go_simp; (try with_reducible rfl))
  refine wpAnyH_ready (rs := [5, 10, 11]) (by kernel_rfl) (by simp) ?_
  refine AllReadyH.cons rfl (fun K hK => ?_) (AllReadyH.cons rfl (fun K hK => ?_) (AllReadyH.cons rfl (fun K hK => ?_) AllReadyH.nil))
  go_simp
  refine (HDo.out _ A3.H.s (HT.out _ (A3.C.under HH.out))).mono ?_
  rintro e W1 ⟨x1, x2, x3, x4, x5, x6, y1, y2, y3, y4, y5, y6, rfl, hI, hgw, hD⟩
  have D3 := hD.lower (Nat.zero_le _)
  have A3' := A3.serve hI hgw
  refine hK.out _ _ ⟨A3'.H.b, A3'.q⟩ (fun hHeld => ?_)
  clear hK K A3 hI hgw hD
  have A3 := A3'; clear A3'
  (try simp only [Act.put, ma, mb, mc, md, me, mf])
  refine tq 6 ?_
  refine tq 7 ?_
  refine tq 8 ?_
  refine tq 9 ?_
  refine wpAnyH_ready (rs := [10, 11]) (by kernel_rfl) (by simp) ?_
  refine AllReadyH.cons rfl (fun K hK => ?_) (AllReadyH.cons rfl (fun K hK => ?_) AllReadyH.nil)
  go_simp
  have br3 := Blk.new W1 174 #[.int .i64 0, .int .i64 0]
  have lgr : w.heap.size <= W1.heap.size := A3.new
  have D3' := D3.below ((zri _ _).alloc (zra _) (.cells #[.int .i64 0, .int .i64 0] 174))
  have A3' := A3.alloc (.cells #[.int .i64 0, .int .i64 0] 174)
  generalize W1.alloc (.cells #[.int .i64 0, .int .i64 0] 174) = W2 at *
  generalize W1.heap.size = gr at *
  refine hK.out _ _ ⟨A3'.H.b, A3'.q⟩ (fun hHeld => ?_)
  clear hK K A3 D3
  have A3 := A3'; clear A3'
  have D3 := D3'; clear D3'
  (try simp only [Act.put, ma, mb, mc, md, me, mf])
  refine tr 11 rfl (fun K hK => ?_)
  go_simp
  have bd3 := Blk.new W2 49 zdv
  have lgd : w.heap.size <= W2.heap.size := A3.new
  have br3' := br3.below ((zri _ _).alloc (zra _) (.cells zdv 49)) br3.lt
  have D3' := D3.below ((zri _ _).alloc (zra _) (.cells zdv 49))
  have A3' := A3.alloc (.cells zdv 49)
  generalize W2.alloc (.cells zdv 49) = W3 at *
  generalize W2.heap.size = gd at *
  refine hK.out _ _ ⟨A3'.H.b, A3'.q⟩ (fun hHeld => ?_)
  clear hK K A3 br3 D3
  have A3 := A3'; clear A3'
  have br3 := br3'; clear br3'
  have D3 := D3'; clear D3'
  (try simp only [Act.put, ma, mb, mc, md, me, mf])
  rotate_left
  go_simp
  have bd3 := Blk.new W1 49 zdv
  have lgd : w.heap.size <= W1.heap.size := A3.new
  have D3' := D3.below ((zri _ _).alloc (zra _) (.cells zdv 49))
  have A3' := A3.alloc (.cells zdv 49)
  generalize W1.alloc (.cells zdv 49) = W2 at *
  generalize W1.heap.size = gd at *
  refine hK.out _ _ ⟨A3'.H.b, A3'.q⟩ (fun hHeld => ?_)
  clear hK K A3 D3
  have A3 := A3'; clear A3'
  have D3 := D3'; clear D3'
  (try simp only [Act.put, ma, mb, mc, md, me, mf])
  refine tr 10 rfl (fun K hK => ?_)
  go_simp
  have br3 := Blk.new W2 174 #[.int .i64 0, .int .i64 0]
  have lgr : w.heap.size <= W2.heap.size := A3.new
  have bd3' := bd3.below ((zri _ _).alloc (zra _) (.cells #[.int .i64 0, .int .i64 0] 174)) bd3.lt
  have D3' := D3.below ((zri _ _).alloc (zra _) (.cells #[.int .i64 0, .int .i64 0] 174))
  have A3' := A3.alloc (.cells #[.int .i64 0, .int .i64 0] 174)
  generalize W2.alloc (.cells #[.int .i64 0, .int .i64 0] 174) = W3 at *
  generalize W2.heap.size = gr at *
  refine hK.out _ _ ⟨A3'.H.b, A3'.q⟩ (fun hHeld => ?_)
  clear hK K A3 bd3 D3
  have A3 := A3'; clear A3'
  have bd3 := bd3'; clear bd3'
  have D3 := D3'; clear D3'
  (try simp only [Act.put, ma, mb, mc, md, me, mf])
  rotate_left
  go_simp
  have br3 := Blk.new W0 174 #[.int .i64 0, .int .i64 0]
  have lgr : w.heap.size <= W0.heap.size := A3.new
  have A3' := A3.alloc (.cells #[.int .i64 0, .int .i64 0] 174)
  generalize W0.alloc (.cells #[.int .i64 0, .int .i64 0] 174) = W1 at *
  generalize W0.heap.size = gr at *
  refine hK.out _ _ ⟨A3'.H.b, A3'.q⟩ (fun hHeld => ?_)
  clear hK K A3 
  have A3 := A3'; clear A3'
  (try simp only [Act.put, ma, mb, mc, md, me, mf])
  refine wpAnyH_ready (rs := [5, 11]) (by kernel_rfl) (by simp) ?_
  refine AllReadyH.cons rfl (fun K hK => ?_) (AllReadyH.cons rfl (fun K hK => ?_) AllReadyH.nil)
  go_simp
  refine (HDo.out _ A3.H.s (HT.out _ (A3.C.under HH.out))).mono ?_
  rintro e W2 ⟨x1, x2, x3, x4, x5, x6, y1, y2, y3, y4, y5, y6, rfl, hI, hgw, hD⟩
  have D3 := hD.lower (Nat.zero_le _)
  have br3' := vqn A3.H.s hgw br3 (by decide)
  have A3' := A3.serve hI hgw
  refine hK.out _ _ ⟨A3'.H.b, A3'.q⟩ (fun hHeld => ?_)
  clear hK K A3 hI hgw hD br3
  have A3 := A3'; clear A3'
  have br3 := br3'; clear br3'
  (try simp only [Act.put, ma, mb, mc, md, me, mf])
  refine tq 6 ?_
  refine tq 7 ?_
  refine tq 8 ?_
  refine tq 9 ?_
  refine tr 11 rfl (fun K hK => ?_)
  go_simp
  have bd3 := Blk.new W2 49 zdv
  have lgd : w.heap.size <= W2.heap.size := A3.new
  have br3' := br3.below ((zri _ _).alloc (zra _) (.cells zdv 49)) br3.lt
  have D3' := D3.below ((zri _ _).alloc (zra _) (.cells zdv 49))
  have A3' := A3.alloc (.cells zdv 49)
  generalize W2.alloc (.cells zdv 49) = W3 at *
  generalize W2.heap.size = gd at *
  refine hK.out _ _ ⟨A3'.H.b, A3'.q⟩ (fun hHeld => ?_)
  clear hK K A3 br3 D3
  have A3 := A3'; clear A3'
  have br3 := br3'; clear br3'
  have D3 := D3'; clear D3'
  (try simp only [Act.put, ma, mb, mc, md, me, mf])
  rotate_left
  go_simp
  have bd3 := Blk.new W1 49 zdv
  have lgd : w.heap.size <= W1.heap.size := A3.new
  have br3' := br3.below ((zri _ _).alloc (zra _) (.cells zdv 49)) br3.lt
  have A3' := A3.alloc (.cells zdv 49)
  generalize W1.alloc (.cells zdv 49) = W2 at *
  generalize W1.heap.size = gd at *
  refine hK.out _ _ ⟨A3'.H.b, A3'.q⟩ (fun hHeld => ?_)
  clear hK K A3 br3
  have A3 := A3'; clear A3'
  have br3 := br3'; clear br3'
  (try simp only [Act.put, ma, mb, mc, md, me, mf])
  refine tr 5 rfl (fun K hK => ?_)
  go_simp
  refine (HDo.out _ A3.H.s (HT.out _ (A3.C.under HH.out))).mono ?_
  rintro e W3 ⟨x1, x2, x3, x4, x5, x6, y1, y2, y3, y4, y5, y6, rfl, hI, hgw, hD⟩
  have D3 := hD.lower (Nat.zero_le _)
  have br3' := vqn A3.H.s hgw br3 (by decide)
  have bd3' := vqn A3.H.s hgw bd3 (by decide)
  have A3' := A3.serve hI hgw
  refine hK.out _ _ ⟨A3'.H.b, A3'.q⟩ (fun hHeld => ?_)
  clear hK K A3 hI hgw hD br3 bd3
  have A3 := A3'; clear A3'
  have br3 := br3'; clear br3'
  have bd3 := bd3'; clear bd3'
  (try simp only [Act.put, ma, mb, mc, md, me, mf])
  refine tq 6 ?_
  refine tq 7 ?_
  refine tq 8 ?_
  refine tq 9 ?_
  rotate_left
  go_simp
  have bd3 := Blk.new W0 49 zdv
  have lgd : w.heap.size <= W0.heap.size := A3.new
  have A3' := A3.alloc (.cells zdv 49)
  generalize W0.alloc (.cells zdv 49) = W1 at *
  generalize W0.heap.size = gd at *
  refine hK.out _ _ ⟨A3'.H.b, A3'.q⟩ (fun hHeld => ?_)
  clear hK K A3 
  have A3 := A3'; clear A3'
  (try simp only [Act.put, ma, mb, mc, md, me, mf])
  refine wpAnyH_ready (rs := [5, 10]) (by kernel_rfl) (by simp) ?_
  refine AllReadyH.cons rfl (fun K hK => ?_) (AllReadyH.cons rfl (fun K hK => ?_) AllReadyH.nil)
  go_simp
  refine (HDo.out _ A3.H.s (HT.out _ (A3.C.under HH.out))).mono ?_
  rintro e W2 ⟨x1, x2, x3, x4, x5, x6, y1, y2, y3, y4, y5, y6, rfl, hI, hgw, hD⟩
  have D3 := hD.lower (Nat.zero_le _)
  have bd3' := vqn A3.H.s hgw bd3 (by decide)
  have A3' := A3.serve hI hgw
  refine hK.out _ _ ⟨A3'.H.b, A3'.q⟩ (fun hHeld => ?_)
  clear hK K A3 hI hgw hD bd3
  have A3 := A3'; clear A3'
  have bd3 := bd3'; clear bd3'
  (try simp only [Act.put, ma, mb, mc, md, me, mf])
  refine tq 6 ?_
  refine tq 7 ?_
  refine tq 8 ?_
  refine tq 9 ?_
  refine tr 10 rfl (fun K hK => ?_)
  go_simp
  have br3 := Blk.new W2 174 #[.int .i64 0, .int .i64 0]
  have lgr : w.heap.size <= W2.heap.size := A3.new
  have bd3' := bd3.below ((zri _ _).alloc (zra _) (.cells #[.int .i64 0, .int .i64 0] 174)) bd3.lt
  have D3' := D3.below ((zri _ _).alloc (zra _) (.cells #[.int .i64 0, .int .i64 0] 174))
  have A3' := A3.alloc (.cells #[.int .i64 0, .int .i64 0] 174)
  generalize W2.alloc (.cells #[.int .i64 0, .int .i64 0] 174) = W3 at *
  generalize W2.heap.size = gr at *
  refine hK.out _ _ ⟨A3'.H.b, A3'.q⟩ (fun hHeld => ?_)
  clear hK K A3 bd3 D3
  have A3 := A3'; clear A3'
  have bd3 := bd3'; clear bd3'
  have D3 := D3'; clear D3'
  (try simp only [Act.put, ma, mb, mc, md, me, mf])
  rotate_left
  go_simp
  have br3 := Blk.new W1 174 #[.int .i64 0, .int .i64 0]
  have lgr : w.heap.size <= W1.heap.size := A3.new
  have bd3' := bd3.below ((zri _ _).alloc (zra _) (.cells #[.int .i64 0, .int .i64 0] 174)) bd3.lt
  have A3' := A3.alloc (.cells #[.int .i64 0, .int .i64 0] 174)
  generalize W1.alloc (.cells #[.int .i64 0, .int .i64 0] 174) = W2 at *
  generalize W1.heap.size = gr at *
  refine hK.out _ _ ⟨A3'.H.b, A3'.q⟩ (fun hHeld => ?_)
  clear hK K A3 bd3
  have A3 := A3'; clear A3'
  have bd3 := bd3'; clear bd3'
  (try simp only [Act.put, ma, mb, mc, md, me, mf])
  refine tr 5 rfl (fun K hK => ?_)
  go_simp
  refine (HDo.out _ A3.H.s (HT.out _ (A3.C.under HH.out))).mono ?_
  rintro e W3 ⟨x1, x2, x3, x4, x5, x6, y1, y2, y3, y4, y5, y6, rfl, hI, hgw, hD⟩
  have D3 := hD.lower (Nat.zero_le _)
  have br3' := vqn A3.H.s hgw br3 (by decide)
  have bd3' := vqn A3.H.s hgw bd3 (by decide)
  have A3' := A3.serve hI hgw
  refine hK.out _ _ ⟨A3'.H.b, A3'.q⟩ (fun hHeld => ?_)
  clear hK K A3 hI hgw hD br3 bd3
  have A3 := A3'; clear A3'
  have br3 := br3'; clear br3'
  have bd3 := bd3'; clear bd3'
  (try simp only [Act.put, ma, mb, mc, md, me, mf])
  refine tq 6 ?_
  refine tq 7 ?_
  refine tq 8 ?_
  refine tq 9 ?_
  rotate_left
  all_goals
   have A4 := A3.row br3 (.inl rfl) lgr #[.int .i64 (r.code : Int), .int .i64 r.srv.st.rev]
   have D4 := D3.offs (growR W3 gr #[.int .i64 (r.code : Int), .int .i64 r.srv.st.rev]) br3 (.inl rfl)
   have bd4 := bd3.far_row (bd3.ne_ br3 (by decide)) #[.int .i64 (r.code : Int), .int .i64 r.srv.st.rev]
   have br4 := br3.setRow #[.int .i64 (r.code : Int), .int .i64 r.srv.st.rev]
   refine tr 12 rfl (fun K hK => ?_)
   refine uzz rfl _ _ _ rfl gr rfl _ _ #[.int .i64 (r.code : Int), .int .i64 r.srv.st.rev] br3 rfl vjg rfl (xzc _ _) ?_
   refine hK.out _ _ ⟨A4.H.b, A4.q⟩ (fun hHeld => ?_)
   clear hK K A3 D3 bd3 br3
   (try simp only [Act.put, ma, mb, mc, md, me, mf])
   generalize W3.setRow gr _ = W4 at *
   have A5 := A4.row bd4 (.inr rfl) lgd #[.int .i64 (toldD r).frm, .int .i64 (toldD r).upto, .slice x1 (toldD r).jobs.length y1, .slice x2 (toldD r).nodes.length y2, .slice x3 (toldD r).leases.length y3, .slice x4 (toldD r).gj.length y4, .slice x5 (toldD r).gn.length y5, .slice x6 (toldD r).gl.length y6]
   have D5 := D4.offs (growR W4 gd #[.int .i64 (toldD r).frm, .int .i64 (toldD r).upto, .slice x1 (toldD r).jobs.length y1, .slice x2 (toldD r).nodes.length y2, .slice x3 (toldD r).leases.length y3, .slice x4 (toldD r).gj.length y4, .slice x5 (toldD r).gn.length y5, .slice x6 (toldD r).gl.length y6]) bd4 (.inr rfl)
   have br5 := br4.far_row (br4.ne_ bd4 (by decide)) #[.int .i64 (toldD r).frm, .int .i64 (toldD r).upto, .slice x1 (toldD r).jobs.length y1, .slice x2 (toldD r).nodes.length y2, .slice x3 (toldD r).leases.length y3, .slice x4 (toldD r).gj.length y4, .slice x5 (toldD r).gn.length y5, .slice x6 (toldD r).gl.length y6]
   have bd5 := bd4.setRow #[.int .i64 (toldD r).frm, .int .i64 (toldD r).upto, .slice x1 (toldD r).jobs.length y1, .slice x2 (toldD r).nodes.length y2, .slice x3 (toldD r).leases.length y3, .slice x4 (toldD r).gj.length y4, .slice x5 (toldD r).gn.length y5, .slice x6 (toldD r).gl.length y6]
   refine tr 13 rfl (fun K hK => ?_)
   refine uzz rfl _ _ _ rfl gd rfl _ _ #[.int .i64 (toldD r).frm, .int .i64 (toldD r).upto, .slice x1 (toldD r).jobs.length y1, .slice x2 (toldD r).nodes.length y2, .slice x3 (toldD r).leases.length y3, .slice x4 (toldD r).gj.length y4, .slice x5 (toldD r).gn.length y5, .slice x6 (toldD r).gl.length y6] bd4 rfl uqy rfl (uk1 _ _ _ _ _ _ _ _ _ _ _ _ _ _ _ _ _ _ _ _) ?_
   refine hK.out _ _ ⟨A5.H.b, A5.q⟩ (fun hHeld => ?_)
   clear hK K A4 D4 bd4 br4
   (try simp only [Act.put, ma, mb, mc, md, me, mf])
   generalize W4.setRow gd _ = W5 at *
   refine tq 14 ?_
   refine wpAnyH_done (by kernel_rfl) ?_ _
   go_wp2_with fail
   go_meet
   exact ⟨gr, gd, x1, x2, x3, x4, x5, x6, y1, y2, y3, y4, y5, y6, rfl, rfl, rfl, A5, br5, bd5, D5⟩
 case rest =>
  obtain ⟨gr, gd, x1, x2, x3, x4, x5, x6, y1, y2, y3, y4, y5, y6, rfl, rfl, rfl, A6, br6, bd6, D6⟩ := hcut
  have hrep := zrj (vx1 A6.H hk r.code r.srv.st.rev (by have := HLe.out; omega) (by have := HVo.out.1.rev; omega) (by have := HZ.out k hk; show (encs (h.c k).waits).length <= _; omega))
  go_wp2_with (first | (refine uqn (by rfl) _ _ rfl gr rfl _ _ br6 _ underlying174 rfl vjg ?_))
  refine hrep.out.mono ?_
  rintro e w7 ⟨rfl, ws7, H7, C7⟩
  have br7 := C7.blk A6.H br6 (by decide) (by decide) (by decide) (by decide)
  have bd7 := C7.blk A6.H bd6 (by decide) (by decide) (by decide) (by decide)
  have bq7 := C7.blk A6.H A6.q (by decide) (by decide) (by decide) (by decide)
  have D7 := zrj (D6.tch A6.H C7.t)
  have CC7 := zrj (A6.C.trans C7)
  have hz7 : ∀ i, i < 8 -> (encs (((⟨r.srv, h.c⟩ : HubD).app k (repF r.code r.srv.st.rev)).c i).waits).length <= 140737488210000 := by
   intro i hi
   have h1 := HZ.out i hi
   have h2 := vj4 4 (encPR (r.code : Int) r.srv.st.rev).1
   unfold HubD.app HubD.upd
   simp only
   by_cases hik : i = k
   ·subst hik
    rw [if_pos rfl]
    show (encs ((h.c i).waits ++ frF 4 _)).length <= _
    rw [uzq, zrb]
    omega
   ·rw [if_neg hik]; show (encs (h.c i).waits).length <= _; omega
  have hs7 : ((⟨r.srv, h.c⟩ : HubD).app k (repF r.code r.srv.st.rev)).srv = r.srv := rfl
  have HT1 := zrj (fun hc : r.code = 0 ∧ (q.kind = 8 ∨ q.kind = 9) => (show h.told k q = (((⟨r.srv, h.c⟩ : HubD).app k (repF r.code r.srv.st.rev)).app k (telF r.srv)).upd k { (((⟨r.srv, h.c⟩ : HubD).app k (repF r.code r.srv.st.rev)).app k (telF r.srv)).c k with watch := (((⟨r.srv, h.c⟩ : HubD).app k (repF r.code r.srv.st.rev)).c k).watch || decide (q.kind = 9) } from HTo.out.trans (if_pos hc)))
  have HT2 := zrj (fun hc : ¬(r.code = 0 ∧ (q.kind = 8 ∨ q.kind = 9)) => (show h.told k q = ((⟨r.srv, h.c⟩ : HubD).app k (repF r.code r.srv.st.rev)) from HTo.out.trans (if_neg hc)))
  generalize ((⟨r.srv, h.c⟩ : HubD).app k (repF r.code r.srv.st.rev)) = h7 at *
  have HZ7 := zrj hz7
  have HH7 := zrj H7
  have q0 : w7.cell? ⟨gq, 0, none⟩ = some (.int .i64 q.kind) := bq7.cell 0
  have r0 : w7.cell? ⟨gr, 0, none⟩ = some (.int .i64 (r.code : Int)) := br7.cell 0
  have F7 := zrj (show Fine h7.srv.st by rw [hs7]; exact HVo.out.1)
  have hB7 := zrj (CC7.out.under HH.out)
  clear A6 br6 bd6 D6 C7 hrep hz7 H7 HTo HDo HZ
  have hcd := HCD.out
  have e0 : ((r.code : Int) == 0) = true := by rw [hcd]; rfl
  have hk8 : q.kind = 8 ∨ q.kind = 9 := .inr HQ9.out
  have hno := (HNo.out (.inr hk8))
  have hsn : r.told.isSome = false := by rw [hno]; rfl
  have HE := zrj (show h.asked k q = (h7.app k (telF r.srv)).upd k { (h7.app k (telF r.srv)).c k with watch := (h7.c k).watch || decide (q.kind = 9) } from HAs.out.trans (by rw [hsn, if_neg (by decide)]; exact (HT1.out ⟨hcd, hk8⟩)))
  have HTl7 := zrj (xxz HH7.out hk F7.out (fun W hW => HT.out W (hB7.out.trans hW)) (by have := HZ7.out k hk; omega))
  clear HT1 HT2 HAs HNo hno hcd
  have hw8 : ((h7.app k (telF h7.srv)).c k).watch = (h7.c k).watch := by unfold HubD.app; rw [uqx]; (try rfl)
  rw [<- hs7] at HE
  generalize hwt : (h7.c k).watch = wt at *
  have k9 : q.kind = 9 := HQ9.out
  have k8 : ¬ q.kind = 8 := by omega
  have b8 : (q.kind == 8) = false := by rw [zrf]; exact k8
  have b9 : (q.kind == 9) = true := by rw [beq_iff_eq]; exact k9
  have hdc : decide (q.kind = 9) = true := by simp [k9]
  rw [hdc, Bool.or_true] at HE
  clear hk8 k8 hdc k9
  cases wt
  ·go_wp2_with fail
   refine HTl7.out.mono ?_
   rintro e w8 ⟨rfl, ws8, H8, C8⟩
   have c8 : w8.cell? ⟨g, 1 + k * 4 + 2, none⟩ = some (.bool false) := by rw [H8.at_wt hk, hw8]
   have f8 : w8.frozen? ⟨g, 1 + k * 4 + 2, none⟩ = false := H8.b.frozen _
   have q8 := C8.blk HH7.out bq7 (by decide) (by decide) (by decide) (by decide)
   have q08 : w8.cell? ⟨gq, 0, none⟩ = some (.int .i64 q.kind) := q8.cell 0
   have HL8 := zrj (H8.looks hk)
   have HC8 := zrj (CC7.out.trans C8)
   clear H8 C8 q8
   go_wp2_with fail
   first | go_end0 | ((try simp only [Exit.inBlock, Exit.then]); refine bodyPost_ret (results_none rfl _ _ _) rfl ?_)
   rw [HE.out]
   exact ⟨rfl, ws8, HL8.out _, HC8.out.cell _ _⟩
  ·go_wp2_with fail
   refine HTl7.out.mono ?_
   rintro e w8 ⟨rfl, ws8, H8, C8⟩
   have c8 : w8.cell? ⟨g, 1 + k * 4 + 2, none⟩ = some (.bool true) := by rw [H8.at_wt hk, hw8]
   have f8 : w8.frozen? ⟨g, 1 + k * 4 + 2, none⟩ = false := H8.b.frozen _
   have q8 := C8.blk HH7.out bq7 (by decide) (by decide) (by decide) (by decide)
   have q08 : w8.cell? ⟨gq, 0, none⟩ = some (.int .i64 q.kind) := q8.cell 0
   have HL8 := zrj (H8.looks hk)
   have HC8 := zrj (CC7.out.trans C8)
   clear H8 C8 q8
   go_wp2_with fail
   first | go_end0 | ((try simp only [Exit.inBlock, Exit.then]); refine bodyPost_ret (results_none rfl _ _ _) rfl ?_)
   rw [HE.out]
   exact ⟨rfl, ws8, HL8.out _, HC8.out.cell _ _⟩
def newCs (n : Nat) (fd : Nat -> Nat) (i : Nat) : ConnM := ⟨if i < n then .pointer (some ⟨fd i, 0, none⟩) else .pointer none, false, false, .slice none 0 0⟩
structure NewM (w : World) (B g sv n : Nat) (fd : Nat -> Nat) (s : St) : Prop where
 b : Blk w g 116 (hubA (.pointer (some ⟨sv, 0, none⟩)) (newCs n fd))
 s : SvI w sv ⟨s, 0⟩
 f : ∀ i, i < n -> FeedIs w (fd i) []
 d : ∀ i j, i < n -> j < n -> fd i = fd j -> i = j
 lo : B <= g ∧ B <= sv ∧ (∀ i, i < n -> B <= fd i) ∧ B <= w.heap.size
section
variable {w w' : World} {B g sv n : Nat} {fd : Nat -> Nat} {s : St}
theorem NewM.below (N : NewM w B g sv n fd s) (hb : Below w.heap.size w w') : NewM w' B g sv n fd s :=
 ⟨N.b.below hb N.b.lt, N.s.below hb, fun i hi => (N.f i hi).below hb (N.f i hi).lt, N.d, ⟨N.lo.1, N.lo.2.1, N.lo.2.2.1, zrc N.lo.2.2.2 hb.size⟩⟩
theorem NewM.step (N : NewM w B g sv n fd s) (hn : n < 8) :
  NewM ((w.alloc (.cells #[.string .empty, .int .i64 0, .int .i64 0] 124)).setCell ⟨g, 1 + n * 4, none⟩ (.pointer (some ⟨w.heap.size, 0, none⟩))) B g sv (n + 1) (fun i => if i = n then w.heap.size else fd i) s := by
 have hb : Below w.heap.size w (w.alloc (.cells #[.string .empty, .int .i64 0, .int .i64 0] 124)) := (zri _ _).alloc (zra _) _
 have bn := Blk.new w 124 #[.string .empty, .int .i64 0, .int .i64 0]
 have hsz : (w.alloc (.cells #[.string .empty, .int .i64 0, .int .i64 0] 124)).heap.size = w.heap.size + 1 := by simp
 have N1 := N.below hb
 have hset := ux6 (w.alloc (.cells #[.string .empty, .int .i64 0, .int .i64 0] 124)) g (1 + n * 4) (.pointer (some ⟨w.heap.size, 0, none⟩))
 have hlt : ∀ i, i < n -> fd i < w.heap.size := fun i hi => (N.f i hi).lt
 refine ⟨?_, N1.s.grown hset (.inr (.inr rfl)) (fun j e => by injection e with e; subst e; exact ⟨_, N1.b⟩), fun i hi => ?_, fun i j hi hj e => ?_, ⟨N.lo.1, N.lo.2.1, fun i hi => ?_, by have := N.lo.2.2.2; simp; omega⟩⟩
 ·have h1 := N1.b.set_ (1 + n * 4) (.pointer (some ⟨w.heap.size, 0, none⟩))
  rw [wz6 hn] at h1
  rw [ujv (cs' := updM (newCs n fd) n { newCs n fd n with fp := .pointer (some ⟨w.heap.size, 0, none⟩) }) (fun i hi => ?_)]
  ·exact h1
  ·unfold updM newCs
   by_cases hin : i = n
   ·subst hin; simp
   ·simp only [if_neg hin]
    by_cases hl : i < n
    ·rw [if_pos hl, if_pos (by omega)]
    ·rw [if_neg hl, if_neg (by omega)]
 ·by_cases hin : i = n
  ·simp only [if_pos hin]
   exact (FeedIs.nil bn).kept hset (fun e => by injection e with e; have := N.b.lt; omega)
  ·simp only [if_neg hin]
   have h1 := N1.f i (by omega)
   exact h1.kept hset (fun e => (h1.ne_ N1.b (by decide)) (by injection e with e; exact e.symm))
 ·(try dsimp only at e)
  by_cases h1 : i = n
  ·by_cases h2 : j = n
   ·omega
   ·rw [if_pos h1, if_neg h2] at e
    have := hlt j (by omega); omega
  ·by_cases h2 : j = n
   ·rw [if_neg h1, if_pos h2] at e
    have := hlt i (by omega); omega
   ·rw [if_neg h1, if_neg h2] at e
    exact N.d i j (by omega) (by omega) e
 ·(try dsimp only)
  by_cases hin : i = n
  ·rw [if_pos hin]; exact N.lo.2.2.2
  ·rw [if_neg hin]; exact N.lo.2.2.1 i (by omega)
theorem NewM.done (N : NewM w B g sv 8 fd s) : HubM w B g sv fd (fun _ => .slice none 0 0) (newH s) := by
 refine ⟨?_, N.s, N.f, N.d, fun i _ => by show Buf _ _ _ _ (encs []); rw [uj3]; exact Buf.nil _ _ _, fun i j _ _ _ k hk => (by cases hk), N.lo⟩
 rw [ujv (cs' := newCs 8 fd) (fun i hi => ?_)]
 ·exact N.b
 ·unfold cellC newCs newH newC
  rw [if_pos hi]
end
theorem wx7 (W : World) : (zeroValue 116).run prog W = .ok (.agg (hubA (.pointer none) (fun _ => ⟨.pointer none, false, false, .slice none 0 0⟩))) W := by kernel_rfl
theorem hnew_ok (s : St) (p1 p2 p3 : Option Addr) (c1 c2 c3 : Nat) (w : World) (hm : StM w w.heap.size p1 p2 p3 s) (hz : StSz s) (hT : Tabs w) (h : uqq s = 0) :
  Calls prog 18 #[.agg (stv s p1 p2 p3 c1 c2 c3)] w fun e w' => ∃ g sv fd ws, e = .returned (.tuple #[.pointer (some ⟨g, 0, none⟩), .int .i64 0]) ∧ HubM w' w.heap.size g sv fd ws (newH s) ∧ Below w.heap.size w w' := by
 have hb0 : Below w.heap.size w (w.alloc (.cells (stv s p1 p2 p3 c1 c2 c3) 35)) := (zri _ _).alloc (zra _) _
 have bx0 := Blk.new w 35 (stv s p1 p2 p3 c1 c2 c3)
 have HC := zrj (fun (W : World) (hW : Below w.heap.size w W) => svNew_ok s p1 p2 p3 c1 c2 c3 W ((hm.below hW).more hW.size) hz (hT.below hW) h)
 have hzh := wx7
 clear h hm hz hT
 go_enter func18, ntmps18
 go_wp2_with (first | (refine uqa rfl _ _ rfl w.heap.size rfl _ _ bx0 _ underlying35 rfl uqg ?_))
 generalize w.alloc _ = w0 at *
 refine (HC.out w0 hb0).mono ?_
 rintro e w1 ⟨sv, rfl, hsv, hI, hb1⟩
 have hB1 := hb0.trans (hb1.mono hb0.size)
 have hsv' := zrc hb0.size hsv
 clear hb0 hb1 hsv bx0 HC
 go_wp2_with fail
 have N0 : NewM (w1.alloc (.cells ((hubA (.pointer none) (fun _ => ⟨.pointer none, false, false, .slice none 0 0⟩)).setIfInBounds 0 (.pointer (some ⟨sv, 0, none⟩))) 116)) w.heap.size w1.heap.size sv 0 (fun _ => 0) s := by
  have hb : Below w1.heap.size w1 (w1.alloc (.cells ((hubA (.pointer none) (fun _ => ⟨.pointer none, false, false, .slice none 0 0⟩)).setIfInBounds 0 (.pointer (some ⟨sv, 0, none⟩))) 116)) := (zri _ _).alloc (zra _) _
  refine ⟨?_, hI.below hb, fun i hi => absurd hi (Nat.not_lt_zero _), fun i j hi => absurd hi (Nat.not_lt_zero _), ⟨hB1.size, hsv', fun i hi => absurd hi (Nat.not_lt_zero _), zrc hB1.size hb.size⟩⟩
  rw [ujv (cs := newCs 0 (fun _ => 0)) (cs' := fun _ => ⟨.pointer none, false, false, .slice none 0 0⟩) (fun i _ => by unfold newCs; rw [if_neg (Nat.not_lt_zero _)])]
  exact Blk.new w1 116 _
 have HB2 := zrj (hB1.alloc hB1.size (.cells ((hubA (.pointer none) (fun _ => ⟨.pointer none, false, false, .slice none 0 0⟩)).setIfInBounds 0 (.pointer (some ⟨sv, 0, none⟩))) 116))
 have hgl : w.heap.size <= w1.heap.size := hB1.size
 clear hI hB1 hsv' hzh
 generalize w1.alloc _ = w2 at *
 generalize w1.heap.size = g at *
 generalize Array.setIfInBounds _ _ _ = zv at *
 go_loopw [19] (fun i wr => ∃ (n : Nat) (fd : Nat -> Nat), n <= 8 ∧ i = .int .i64 n ∧ NewM wr w.heap.size g sv n fd s ∧ Below w.heap.size w wr) (fun i _ => 8 - (intOf i).toNat)
 case atStart => exact ⟨0, _, Nat.zero_le _, rfl, N0, HB2.out⟩
 case round =>
  obtain ⟨n, fd, hn, rfl, Nn, hBn⟩ := hrel
  clear N0 HB2
  by_cases hlt : n < 8
  ·have hni : (n : Int) < 8 := by omega
   have hn0 : ¬ (n : Int) < 0 := by omega
   go_upto_region 8 with fail
   have Nd := Nn.below (zri _ wr).drew
   have hBd := hBn.drew
   clear Nn hBn
   refine wp_region_held_drew (S := fun _ => True) (by kernel_rfl) trivial (fun hHeld => ?_)
   generalize wr.drew = W0 at *
   refine tq 0 ?_
   refine tq 1 ?_
   refine tq 3 ?_
   refine tq 4 ?_
   refine tr 2 rfl (fun K hK => ?_)
   go_simp
   refine (wji W0).mono ?_
   rintro e W1 ⟨rfl, rfl⟩
   refine hK.out _ _ trivial (fun hHeld => ?_)
   clear hK K
   (try simp only [Act.put, ma, mb, mc, md, me, mf])
   refine tq 5 ?_
   refine tq 6 ?_
   have Ns := Nd.step hlt
   have y0 : (W0.alloc (.cells #[.string .empty, .int .i64 0, .int .i64 0] 124)).cell? ⟨g, 1 + n * 4, none⟩ = some (.pointer none) := by
    rw [(Nd.b.alloc _).cell, xx0 hlt]; unfold newCs; rw [if_neg (Nat.lt_irrefl _)]
   have y1 : (W0.alloc (.cells #[.string .empty, .int .i64 0, .int .i64 0] 124)).frozen? ⟨g, 1 + n * 4, none⟩ = false := (Nd.b.alloc _).frozen _
   have hBs : Below w.heap.size w ((W0.alloc (.cells #[.string .empty, .int .i64 0, .int .i64 0] 124)).setCell ⟨g, 1 + n * 4, none⟩ (.pointer (some ⟨W0.heap.size, 0, none⟩))) := (hBd.alloc hBd.size _).setCell (p := ⟨g, 1 + n * 4, none⟩) hgl _
   refine tr 7 rfl (fun K hK => ?_)
   go_simp
   refine hK.out _ _ trivial (fun hHeld => ?_)
   clear hK K y0 y1 Nd
   (try simp only [Act.put, ma, mb, mc, md, me, mf])
   refine wpAnyH_done (by kernel_rfl) ?_ _
   have HNs := zrj Ns
   have HBs := zrj hBs
   clear Ns hBs hBd
   go_wp2_with fail
   go_roundw
   case rel => exact ⟨n + 1, _, by omega, by go_num, HNs.out, HBs.out⟩
   case measure => simp [intOf]; omega
  ·obtain rfl : n = 8 := by omega
   have HN := zrj Nn.done
   have HB := zrj hBn
   clear Nn hBn
   go_wp2_with fail
   go_ret2
   exact ⟨g, sv, fd, _, rfl, HN.out, HB.out⟩
theorem vyy {s : St} (F : Fine s) : SrvOk ⟨s, 0⟩ := ⟨F, Int.le_refl _, (by decide : (0 : Int) <= 1099511627776)⟩
theorem wkm {s : St} (F : Fine s) {k : Nat} (hk : k < 8) {q : ReqD} (hq : reqE q = 0) (h89 : q.kind = 8 ∨ q.kind = 9) (hc : (doR ⟨s, 0⟩ q).code = 0) (ht : (sfrR 3 s).2 = 0) :
  (newH s).out k (encs [reqFr q]) = [⟨3, 4, encP 0 s.rev⟩, ⟨3, 1, (encR 3 s).1⟩] := by
 obtain ⟨h1, h2⟩ := wks (v := ⟨s, 0⟩) h89
 have hr := (xq9 (vyy F) q).2
 rw [hc, h2] at hr
 rw [(vyx (vk7 s) hk hq).1]
 unfold HubD.asked
 have hs : ((newH s).feed k (encs [reqFr q])).srv = ⟨s, 0⟩ := rfl
 rw [hs, h1]
 show ((((newH s).feed k (encs [reqFr q])).told k q).c k).waits = _
 have htd : ((newH s).feed k (encs [reqFr q])).told k q = (let r := doR ((newH s).feed k (encs [reqFr q])).srv q
   let h1 : HubD := (⟨r.srv, ((newH s).feed k (encs [reqFr q])).c⟩ : HubD).app k (repF r.code r.srv.st.rev)
   if r.code = 0 ∧ (q.kind = 8 ∨ q.kind = 9) then (h1.app k (telF r.srv)).upd k { (h1.app k (telF r.srv)).c k with watch := (h1.c k).watch || decide (q.kind = 9) } else h1) := xjp _ _ _ hk
 rw [htd, hs]
 simp only [h2, hc]
 rw [if_pos ⟨trivial, h89⟩, uqx]
 unfold HubD.app
 rw [uqx, uqx]
 have hw : (((newH s).feed k (encs [reqFr q])).c k).waits = [] := by unfold HubD.feed; rw [uqx]; rfl
 show ((((newH s).feed k (encs [reqFr q])).c k).waits ++ repF 0 s.rev) ++ telF ⟨s, 0⟩ = _
 have hr' : repF 0 s.rev = [⟨3, 4, encP ((0 : Nat) : Int) s.rev⟩] := hr
 rw [hw, hr']
 unfold telF
 rw [if_neg (by simpa using ht)]
 rfl
def qGet : ReqD := ⟨8, noJ, noN, noL, ByteArray.empty, 0⟩
theorem vzu : (sfrR 3 uq3).2 = 0 := by decide +kernel
theorem one_new (s : St) {k : Nat} (hk : k < 8) {q : ReqD} (hq : reqE q = 0) : newF ((newH s).c k).L (uje q) = [reqFr q] := by
 unfold uje
 rw [if_pos hq]
 have := (vyl (fs := []) (gs := [reqFr q]) (by simp) (by intro x hx; rw [List.mem_singleton.1 hx]; exact vqc hq)).1
 rw [uj3] at this
 exact this
theorem mid_len (h : HubD) (k : Nat) (s : List UInt8) (n i : Nat) : (encs (((h.feed k s).frames k ((newF (h.c k).L s).take n)).c i).waits).length <= h.len i + (newF (h.c k).L s).length * 18054 := by
 have h1 := vxv k ((newF (h.c k).L s).take n) (h.feed k s) i
 rw [vyb] at h1
 have h2 : ((newF (h.c k).L s).take n).length <= (newF (h.c k).L s).length := by rw [List.length_take]; omega
 have h3 := Nat.mul_le_mul_right 18054 h2
 exact zrc h1 (by omega)
theorem wvc (s : St) (i : Nat) : (newH s).len i = 0 := by show (encs []).length = 0; rw [uj3]; rfl
def emptyS : St := ⟨0, [], [], []⟩
def qPutA : ReqD := ⟨1, ⟨⟨#[97]⟩, 0, 0, 0, ByteArray.empty⟩, noN, noL, ByteArray.empty, 0⟩
theorem mid_len1 (h : HubD) (k : Nat) (s : List UInt8) (n i : Nat) : (encs ((h.mid k s n).c i).waits).length <= h.len i + (newF (h.c k).L s).length * 18054 := mid_len h k s n i
theorem wv6 (q : ReqD) (w : World) (HS : ReqSz q) (hT : Tabs w) (h89 : q.kind = 8 ∨ q.kind = 9) (hE : reqE q = 0) :
  Calls prog 20 #[.agg (qv q)] w fun e w' => e = .returned (.tuple #[.string (bstr (uje q)), .bool (decide (reqE q = 0))]) ∧ Below w.heap.size w w' := by
 have hb0 : Below w.heap.size w (w.alloc (.cells (qv q) 68)) := (zri _ _).alloc (zra _) _
 have bx0 := Blk.new w 68 (qv q)
 have hzf := uzg
 have hzq := uq6
 have hbs : uje q = wireF 3 3 (encQ q) := by unfold uje; rw [if_pos hE, uv2]; rfl
 have HE := zrj (fun W (hW : Tabs W) => xz2 q W HS hW h89 hE)
 have HF := zrj (fun W => uvo 3 3 (encQ q) (by omega) (by omega) (zrc (vw9 hE) (by decide)) W)
 have HT := zrj hT
 have hdec : decide (reqE q = 0) = true := by simp [hE]
 rw [hbs, hdec]
 generalize wireF 3 3 (encQ q) = out at *
 generalize encQ q = pl at *
 clear hbs hE h89 HS hT hdec
 go_enter func20, ntmps20
 go_wp2_with (first | (refine uqa rfl _ _ rfl w.heap.size rfl _ _ bx0 _ underlying68 rfl uqe ?_))
 generalize w.alloc _ = w0 at *
 refine (HE.out _ (HT.out.below hb0)).mono ?_
 rintro e w1 ⟨rfl, hb1⟩
 go_wp2_with fail
 refine (HF.out _).mono ?_
 rintro e w2 ⟨rfl, hb2⟩
 go_wp2_with fail
 go_ret2
 exact ⟨rfl, (hb0.trans (hb1.mono hb0.size)).trans (hb2.mono (zrc hb0.size hb1.size))⟩
end Go.Proofs.YtibiankbmhdljabGreatDoor
