/-
  Several texts in one: HubS, HubN, HubBp, ShutP, HubU.
-/
import Derived.Test.YtibiankbmhdljaaGreatDoorPkHubG
set_option linter.all false
set_option maxHeartbeats 16000000
set_option maxRecDepth 100000
namespace Go.Proofs.YtibiankbmhdljaaGreatDoor
open Go.Proofs.Tryz
open Go.RowKit
theorem wy9 (i : Nat) (c : UInt8) : badAt i c <= 4 := by
 unfold badAt
 repeat' split
 all_goals omega
theorem xxm : ∀ (f i : Nat) (l : List UInt8), hdE f i l <= 4
 | 0, _, _ => by show 0 <= 4; decide
 | _ + 1, _, [] => by show 0 <= 4; decide
 | f + 1, i, c :: r => by
  unfold hdE
  split
  ·exact xxm f _ _
  ·exact wy9 _ _
theorem decF_low (l : List UInt8) : (decF l).e <= 9 := by
 unfold decF
 split
 ·exact zrc (xxm _ _ _) (by decide)
 split
 ·show 3 <= 9; decide
 split
 ·exact vyc _ _ _ _
 split
 ·show 2 <= 9; decide
 split
 ·show 3 <= 9; decide
 split
 ·show 5 <= 9; decide
 ·show 0 <= 9; decide
theorem wqb : ∀ (f : Nat) (l : List UInt8), (feedN f l).e <= 9
 | 0, _ => by show 3 <= 9; decide
 | f + 1, l => by
  unfold feedN
  split
  ·exact wqb f _
  ·exact decF_low l
theorem errF_low (L : List UInt8) : errF L <= 9 := by
 unfold errF
 split
 ·decide
 ·exact wqb _ _
theorem wwp {w : World} {B g sv : Nat} {fd : Nat -> Nat} {ws : Nat -> Value} {h : HubD} (H : HubM w B g sv fd ws h) {k : Nat} (hk : k < 8) (hv : SrvOk h.srv) (HTb : ∀ W, Below B w W -> Tabs W) (x : Fr) (hg : uzt x) (hz : ∀ i, i < 8 -> (encs (h.c i).waits).length <= 140737488200000) :
  Calls prog 42 #[.pointer (some ⟨g, 0, none⟩), .pointer (some ⟨g, 1 + k * 4, none⟩), .agg #[.int .i64 (x.ver : Int), .int .i64 (x.kind : Int), .string (bstr x.pl)]] w fun e w' => e = .returned (.tuple #[]) ∧ HubQ w B g sv fd ws (h.frame k x) w' := by
 by_cases h1 : x.ver = 3
 ·by_cases h2 : x.kind = 3
  ·by_cases hd : (decQR x.pl).2 = 0
   ·exact wzq H hk hv HTb x hg hz h1 h2 hd
   ·exact wwq H hk hv HTb x hg hz h1 h2 hd
  ·exact vkf H hk hv HTb x hg hz (.inr h2)
 ·exact vkf H hk hv HTb x hg hz (.inl h1)
def HubD.mid (h : HubD) (k : Nat) (s : List UInt8) (n : Nat) : HubD := (h.feed k s).frames k ((newF (h.c k).L s).take n)
theorem mid_zero (h : HubD) (k : Nat) (s : List UInt8) : h.mid k s 0 = h.feed k s := by unfold HubD.mid; rw [List.take_zero]; rfl
theorem mid_step (h : HubD) (k : Nat) (s : List UInt8) (n : Nat) (x : Fr) (hx : (newF (h.c k).L s)[n]? = some x) : h.mid k s (n + 1) = HubD.step k (h.mid k s n) x := by
 unfold HubD.mid
 rw [List.take_add_one, hx, Option.toList_some, vvs]
 rfl
theorem mid_all (h : HubD) (k : Nat) (s : List UInt8) : (h.mid k s (newF (h.c k).L s).length).ended k (errF ((h.c k).L ++ s)) = h.work k s := by
 unfold HubD.mid
 rw [List.take_length]
 rfl
theorem mid_srv {h : HubD} (hv : SrvOk h.srv) (k : Nat) (s : List UInt8) (n : Nat) : SrvOk (h.mid k s n).srv := vzb (h := h.feed k s) hv k
theorem HubC.asd {w w' : World} {g sv : Nat} {fd : Nat -> Nat} {ws : Nat -> Value} {k : Nat} (hk : k < 8) (ha : Asd w (fd k) w') : HubC w g sv fd ws w' ws := HubC.grown ha (fun j hj => by injection hj with hj; subst hj; exact .inr (.inr (.inl ⟨k, hk, rfl⟩)))
theorem ukm {w : World} {B g sv : Nat} {fd : Nat -> Nat} {ws : Nat -> Value} {h : HubD} (H : HubM w B g sv fd ws h) {k : Nat} (hk : k < 8) (hv : SrvOk h.srv) (HTb : ∀ W, Below B w W -> Tabs W) (s : ByteArray) (hs : s.size <= 1152921504606846976)
  (hc : (newF (h.c k).L s.data.toList).length <= 4398046511104) (hz : ∀ n i, i < 8 -> (encs ((h.mid k s.data.toList n).c i).waits).length <= 140737488200000) (ho : (h.c k).closed = false) :
  Calls prog 15 #[.pointer (some ⟨g, 0, none⟩), .int .i64 (k : Int), .string s] w fun e w' => e = .returned (.tuple #[.string (bstr (encs (h.out k s.data.toList))), .int .i64 0]) ∧ HubQ w B g sv fd ws (h.send k s.data.toList) w' := by
 have c1 : w.cell? ⟨g, 1 + k * 4 + 1, none⟩ = some (.bool false) := by rw [H.at_cl hk, ho]
 have c2 := H.at_fp hk
 have HO := zrj (vw1 H hk)
 have HP := zrj (wvb (fd k) (h.c k).L s w (H.f k hk) hs (fun outs ho => by rw [vqx ho]; exact hc))
 have HH := zrj H
 have HN := zrj (fun outs (ho : (feedF (h.c k).L).out ++ outs = (feedF ((h.c k).L ++ s.data.toList)).out) => vqx ho)
 have HV := zrj (fun n => mid_srv hv k s.data.toList n)
 have HT := zrj HTb
 have HZ := zrj hz
 have HG := zrj (xx1 (h.c k).L s.data.toList)
 have HST := zrj (mid_step h k s.data.toList)
 have HZE := zrj (mid_zero h k s.data.toList)
 have HAL := zrj (mid_all h k s.data.toList)
 have HER := zrj (errF_low ((h.c k).L ++ s.data.toList))
 have hou : h.out k s.data.toList = ((h.work k s.data.toList).c k).waits := by unfold HubD.out; rw [if_neg (by rw [ho]; simp)]
 have hse : h.send k s.data.toList = (h.work k s.data.toList).flush k := by unfold HubD.send; rw [if_neg (by rw [ho]; simp)]
 rw [hou, hse]
 have hL := zrj hc
 clear H hs hc hz HTb hv hou hse ho
 go_enter func15, ntmps15
 go_wp2_with fail
 refine HO.out.mono ?_
 rintro e w1 ⟨rfl, rfl⟩
 go_wp2_with fail
 refine HP.out.mono ?_
 rintro e w2 ⟨pa, ca, outs, rfl, hel, hge, hou, hfe, hasd⟩
 have hne := HN.out outs hou
 rw [<- hne] at HST HG HAL hL
 have H2 := HH.out.fed hk hfe hasd
 rw [<- HZE.out] at H2
 have HH2 := zrj H2
 have C2 := zrj (HubC.asd (g := g) (sv := sv) (ws := ws) hk hasd)
 have HB2 := zrj (C2.out.under HH.out)
 have HNO := zrj (show ∀ a, pa = some a -> ¬ uwy g sv fd ws a.block from fun a ha hown => by have h1 := hge a ha; have h2 := (HH.out.own_ge hown).2; omega)
 have HEL := zrj hel
 have hlen : outs.length <= 4398046511104 := hL.out
 clear HP HO HN HZE hel hge hou hfe hasd hne c1 c2
 generalize errF ((h.c k).L ++ s.data.toList) = er at *
 go_wp2_with fail
 go_loopw [35] (fun i wr => ∃ (n : Nat) (wsn : Nat -> Value), n <= outs.length ∧ i = .int .i64 n ∧ HubM wr B g sv fd wsn (h.mid k s.data.toList n) ∧ HubC w2 g sv fd ws wr wsn) (fun i _ => outs.length - (intOf i).toNat)
 case atStart => exact ⟨0, ws, Nat.zero_le _, rfl, H2, HubC.refl _ _ _ _ _⟩
 case round =>
  obtain ⟨n, wsn, hn, rfl, Hn, Cn⟩ := hrel
  clear H2
  by_cases hlt : n < outs.length
  ·have hx : outs[n]? = some outs[n] := zrd hlt
   have hgx := HG.out outs[n] (List.getElem_mem hlt)
   have hst := HST.out n outs[n] hx
   generalize outs[n] = x at *
   obtain ⟨a, rfl, hab, _, hat⟩ := (HEL.out.tch (zra _) Cn.t HNO.out).at_ (k := n) (r := rowFr x) (by rw [zrg, hx]; rfl)
   have hb1 : Below wr.heap.size wr (wr.alloc (.cells #[.int .i64 (x.ver : Int), .int .i64 (x.kind : Int), .string (bstr x.pl)] 63)) := (zri _ _).alloc (zra _) _
   have bx := Blk.new wr 63 #[.int .i64 (x.ver : Int), .int .i64 (x.kind : Int), .string (bstr x.pl)]
   have Hn1 := Hn.below hb1
   have HCn1 := zrj (Cn.below hb1)
   have k1 := Hn1.at_cl hk
   have HHn := zrj Hn1
   have HST2 := zrj hst
   have HGX := zrj hgx
   clear Hn Cn hx hgx hst Hn1 hab hb1
   go_upto_region 10 with (first | (refine uqe rfl _ _ rfl (a.add (n * 3)) rfl [Value.int .i64 (x.ver : Int), Value.int .i64 (x.kind : Int), Value.string (bstr x.pl)] _ hat underlying63 rfl uqs ?_) | (refine uqg rfl _ _ _ rfl rfl 63 _ #[.int .i64 (x.ver : Int), .int .i64 (x.kind : Int), .string (bstr x.pl)] rfl uqs rfl (uj4 _ _ _) ?_))
   generalize wr.alloc _ = W1 at *
   generalize wr.heap.size = gf at *
   generalize hcl : ((h.mid k s.data.toList n).c k).closed = cl at *
   cases cl
   ·have HS := zrj (HST2.out.trans (by unfold HubD.step; rw [if_neg (by rw [hcl]; simp)]))
    have HF := zrj (wwp HHn.out hk (HV.out n) (fun W hW => HT.out W ((HB2.out.trans (HCn1.out.under HH2.out)).trans hW)) x HGX.out (HZ.out n))
    clear hcl HST2
    go_wp2_with (first | (refine uqa (by rfl) _ _ rfl gf rfl _ _ bx _ underlying63 rfl uqs ?_))
    refine HF.out.mono ?_
    rintro e w3 ⟨rfl, ws3, H3, C3⟩
    have HC3 := zrj (HCn1.out.trans C3)
    have HH3 := zrj H3
    clear H3 C3 bx k1 hat
    go_wp2_with fail
    go_roundw
    case rel => exact ⟨n + 1, ws3, by omega, by go_num, by rw [HS.out]; exact HH3.out, HC3.out⟩
    case measure => simp [intOf]; omega
   ·have HS := zrj (HST2.out.trans (by unfold HubD.step; rw [if_pos hcl]))
    clear hcl HST2 bx hat
    go_wp2_with fail
    go_roundw
    case rel => exact ⟨n + 1, wsn, by omega, by go_num, by rw [HS.out]; exact HHn.out, HCn1.out⟩
    case measure => simp [intOf]; omega
  ·obtain rfl : n = outs.length := by omega
   have k1 := Hn.at_cl hk
   have HHn := zrj Hn
   have HCn := zrj (C2.out.trans Cn)
   have FV := zrj (HV.out outs.length)
   have HZn := zrj (HZ.out outs.length k hk)
   clear Hn Cn HST HG hlt
   generalize hmid : h.mid k s.data.toList outs.length = hm at *
   clear hmid
   by_cases he : er = 0
   ·have e0 : ((er : Int) != 0) = false := by rw [he]; rfl
    have HW := zrj (show hm = h.work k s.data.toList by rw [<- HAL.out, he, uyu])
    clear HAL he
    go_wp2_with fail
    refine (uy3 HHn.out hk).mono ?_
    rintro e w3 ⟨rfl, ws3, H3, C3⟩
    go_wp2_with fail
    go_ret2
    rw [<- HW.out]
    exact ⟨rfl, ws3, H3, HCn.out.trans C3⟩
   ·have e0 : ((er : Int) != 0) = true := by rw [bne_iff_ne]; omega
    generalize hcl : (hm.c k).closed = cl at *
    cases cl
    ·have HW := zrj (show hm.close k er = h.work k s.data.toList by rw [<- HAL.out]; unfold HubD.ended; rw [if_pos ⟨he, hcl⟩])
     clear HAL he hcl
     go_wp2_with fail
     refine (vze HHn.out hk FV.out.1 er (by have := HER.out; omega) (by have := HZn.out; omega)).mono ?_
     rintro e w3 ⟨rfl, ws3, H3, C3⟩
     have HC3 := zrj (HCn.out.trans C3)
     have HF := zrj (uy3 H3 hk)
     clear C3 H3
     go_wp2_with fail
     refine HF.out.mono ?_
     rintro e w4 ⟨rfl, ws4, H4, C4⟩
     go_wp2_with fail
     go_ret2
     rw [<- HW.out]
     exact ⟨rfl, ws4, H4, HC3.out.trans C4⟩
    ·have HW := zrj (show hm = h.work k s.data.toList by rw [<- HAL.out, vvn hcl])
     clear HAL he hcl
     go_wp2_with fail
     refine (uy3 HHn.out hk).mono ?_
     rintro e w3 ⟨rfl, ws3, H3, C3⟩
     go_wp2_with fail
     go_ret2
     rw [<- HW.out]
     exact ⟨rfl, ws3, H3, HCn.out.trans C3⟩
theorem vzg {w : World} {B g sv : Nat} {fd : Nat -> Nat} {ws : Nat -> Value} {h : HubD} (H : HubM w B g sv fd ws h) {k : Nat} (hk : k < 8) (s : ByteArray) (ho : (h.c k).closed = true) :
  Calls prog 15 #[.pointer (some ⟨g, 0, none⟩), .int .i64 (k : Int), .string s] w fun e w' => e = .returned (.tuple #[.string .empty, .int .i64 6]) ∧ w = w' := by
 have c1 : w.cell? ⟨g, 1 + k * 4 + 1, none⟩ = some (.bool true) := by rw [H.at_cl hk, ho]
 have HO := zrj (vw1 H hk)
 clear H ho
 go_enter func15, ntmps15
 go_wp2_with fail
 refine HO.out.mono ?_
 rintro e w1 ⟨rfl, rfl⟩
 go_wp2_with fail
 go_ret2
 exact ⟨rfl, rfl⟩
theorem wqi {w : World} (g : Nat) (k : Int) (hk : k < 0 ∨ 8 <= k) (s : ByteArray) :
  Calls prog 15 #[.pointer (some ⟨g, 0, none⟩), .int .i64 k, .string s] w fun e w' => e = .returned (.tuple #[.string .empty, .int .i64 1]) ∧ w = w' := by
 have HO := zrj (wzr (w := w) g k hk)
 clear hk
 go_enter func15, ntmps15
 go_wp2_with fail
 refine HO.out.mono ?_
 rintro e w1 ⟨rfl, rfl⟩
 go_wp2_with fail
 go_ret2
 exact ⟨rfl, rfl⟩
def newCs (n : Nat) (fd : Nat -> Nat) (i : Nat) : ConnM := ⟨if i < n then .pointer (some ⟨fd i, 0, none⟩) else .pointer none, false, false, .slice none 0 0⟩
structure NewM (w : World) (B g sv n : Nat) (fd : Nat -> Nat) (s : St) : Prop where
 b : Blk w g 93 (hubA (.pointer (some ⟨sv, 0, none⟩)) (newCs n fd))
 s : SvI w sv ⟨s, 0⟩
 f : ∀ i, i < n -> FeedIs w (fd i) []
 d : ∀ i j, i < n -> j < n -> fd i = fd j -> i = j
 lo : B <= g ∧ B <= sv ∧ (∀ i, i < n -> B <= fd i) ∧ B <= w.heap.size
section
variable {w w' : World} {B g sv n : Nat} {fd : Nat -> Nat} {s : St}
theorem NewM.below (N : NewM w B g sv n fd s) (hb : Below w.heap.size w w') : NewM w' B g sv n fd s :=
 ⟨N.b.below hb N.b.lt, N.s.below hb, fun i hi => (N.f i hi).below hb (N.f i hi).lt, N.d, ⟨N.lo.1, N.lo.2.1, N.lo.2.2.1, zrc N.lo.2.2.2 hb.size⟩⟩
theorem NewM.step (N : NewM w B g sv n fd s) (hn : n < 8) :
  NewM ((w.alloc (.cells #[.string .empty, .int .i64 0, .int .i64 0] 112)).setCell ⟨g, 1 + n * 4, none⟩ (.pointer (some ⟨w.heap.size, 0, none⟩))) B g sv (n + 1) (fun i => if i = n then w.heap.size else fd i) s := by
 have hb : Below w.heap.size w (w.alloc (.cells #[.string .empty, .int .i64 0, .int .i64 0] 112)) := (zri _ _).alloc (zra _) _
 have bn := Blk.new w 112 #[.string .empty, .int .i64 0, .int .i64 0]
 have hsz : (w.alloc (.cells #[.string .empty, .int .i64 0, .int .i64 0] 112)).heap.size = w.heap.size + 1 := by simp
 have N1 := N.below hb
 have hset := ukd (w.alloc (.cells #[.string .empty, .int .i64 0, .int .i64 0] 112)) g (1 + n * 4) (.pointer (some ⟨w.heap.size, 0, none⟩))
 have hlt : ∀ i, i < n -> fd i < w.heap.size := fun i hi => (N.f i hi).lt
 refine ⟨?_, N1.s.grown hset (.inr (.inr rfl)) (fun j e => by injection e with e; subst e; exact ⟨_, N1.b⟩), fun i hi => ?_, fun i j hi hj e => ?_, ⟨N.lo.1, N.lo.2.1, fun i hi => ?_, by have := N.lo.2.2.2; simp; omega⟩⟩
 ·have h1 := N1.b.set_ (1 + n * 4) (.pointer (some ⟨w.heap.size, 0, none⟩))
  rw [wzu hn] at h1
  rw [ujr (cs' := updM (newCs n fd) n { newCs n fd n with fp := .pointer (some ⟨w.heap.size, 0, none⟩) }) (fun i hi => ?_)]
  ·exact h1
  ·unfold updM newCs
   by_cases hin : i = n
   ·subst hin; simp
   ·simp only [if_neg hin]
    by_cases hl : i < n
    ·rw [if_pos hl, if_pos (by omega)]
    ·rw [if_neg hl, if_neg (by omega)]
 ·by_cases hin : i = n
  ·simp only [if_pos hin]
   exact (FeedIs.nil bn).kept hset (fun e => by injection e with e; have := N.b.lt; omega)
  ·simp only [if_neg hin]
   have h1 := N1.f i (by omega)
   exact h1.kept hset (fun e => (h1.ne_ N1.b (by decide)) (by injection e with e; exact e.symm))
 ·(try dsimp only at e)
  by_cases h1 : i = n
  ·by_cases h2 : j = n
   ·omega
   ·rw [if_pos h1, if_neg h2] at e
    have := hlt j (by omega); omega
  ·by_cases h2 : j = n
   ·rw [if_neg h1, if_pos h2] at e
    have := hlt i (by omega); omega
   ·rw [if_neg h1, if_neg h2] at e
    exact N.d i j (by omega) (by omega) e
 ·(try dsimp only)
  by_cases hin : i = n
  ·rw [if_pos hin]; exact N.lo.2.2.2
  ·rw [if_neg hin]; exact N.lo.2.2.1 i (by omega)
theorem NewM.done (N : NewM w B g sv 8 fd s) : HubM w B g sv fd (fun _ => .slice none 0 0) (newH s) := by
 refine ⟨?_, N.s, N.f, N.d, fun i _ => by show Buf _ _ _ _ (encs []); rw [uxn]; exact Buf.nil _ _ _, fun i j _ _ _ k hk => (by cases hk), N.lo⟩
 rw [ujr (cs' := newCs 8 fd) (fun i hi => ?_)]
 ·exact N.b
 ·unfold cellC newCs newH newC
  rw [if_pos hi]
end
theorem wx0 (W : World) : (zeroValue 93).run prog W = .ok (.agg (hubA (.pointer none) (fun _ => ⟨.pointer none, false, false, .slice none 0 0⟩))) W := by kernel_rfl
theorem vxh (s : St) (p1 p2 p3 : Option Addr) (c1 c2 c3 : Nat) (w : World) (hm : StM w w.heap.size p1 p2 p3 s) (hz : StSz s) (hT : Tabs w) (h : uqv s ≠ 0) :
  Calls prog 11 #[.agg (stv s p1 p2 p3 c1 c2 c3)] w fun e w' => e = .returned (.tuple #[.pointer none, .int .i64 ((uqv s : Nat) : Int)]) ∧ Below w.heap.size w w' := by
 have hb0 : Below w.heap.size w (w.alloc (.cells (stv s p1 p2 p3 c1 c2 c3) 26)) := (zri _ _).alloc (zra _) _
 have bx0 := Blk.new w 26 (stv s p1 p2 p3 c1 c2 c3)
 have HC := zrj (fun (W : World) (hW : Below w.heap.size w W) => vxv s p1 p2 p3 c1 c2 c3 W ((hm.below hW).more hW.size) hz (hT.below hW) h)
 have hne : (((uqv s : Nat) : Int) != 0) = true := by rw [bne_iff_ne]; omega
 generalize uqv s = n at *
 clear h hm hz hT
 go_enter func11, ntmps11
 go_wp2_with (first | (refine uqc rfl _ _ rfl w.heap.size rfl _ _ bx0 _ underlying26 rfl uqh ?_))
 generalize w.alloc _ = w0 at *
 refine (HC.out w0 hb0).mono ?_
 rintro e w1 ⟨rfl, hb1⟩
 have hB1 := hb0.trans (hb1.mono hb0.size)
 go_wp2_with fail
 go_ret2
 exact ⟨rfl, hB1⟩
theorem uya (s : St) (p1 p2 p3 : Option Addr) (c1 c2 c3 : Nat) (w : World) (hm : StM w w.heap.size p1 p2 p3 s) (hz : StSz s) (hT : Tabs w) (h : uqv s = 0) :
  Calls prog 11 #[.agg (stv s p1 p2 p3 c1 c2 c3)] w fun e w' => ∃ g sv fd ws, e = .returned (.tuple #[.pointer (some ⟨g, 0, none⟩), .int .i64 0]) ∧ HubM w' w.heap.size g sv fd ws (newH s) ∧ Below w.heap.size w w' := by
 have hb0 : Below w.heap.size w (w.alloc (.cells (stv s p1 p2 p3 c1 c2 c3) 26)) := (zri _ _).alloc (zra _) _
 have bx0 := Blk.new w 26 (stv s p1 p2 p3 c1 c2 c3)
 have HC := zrj (fun (W : World) (hW : Below w.heap.size w W) => vju s p1 p2 p3 c1 c2 c3 W ((hm.below hW).more hW.size) hz (hT.below hW) h)
 have hzh := wx0
 clear h hm hz hT
 go_enter func11, ntmps11
 go_wp2_with (first | (refine uqc rfl _ _ rfl w.heap.size rfl _ _ bx0 _ underlying26 rfl uqh ?_))
 generalize w.alloc _ = w0 at *
 refine (HC.out w0 hb0).mono ?_
 rintro e w1 ⟨sv, rfl, hsv, hI, hb1⟩
 have hB1 := hb0.trans (hb1.mono hb0.size)
 have hsv' := zrc hb0.size hsv
 clear hb0 hb1 hsv bx0 HC
 go_wp2_with fail
 have N0 : NewM (w1.alloc (.cells ((hubA (.pointer none) (fun _ => ⟨.pointer none, false, false, .slice none 0 0⟩)).setIfInBounds 0 (.pointer (some ⟨sv, 0, none⟩))) 93)) w.heap.size w1.heap.size sv 0 (fun _ => 0) s := by
  have hb : Below w1.heap.size w1 (w1.alloc (.cells ((hubA (.pointer none) (fun _ => ⟨.pointer none, false, false, .slice none 0 0⟩)).setIfInBounds 0 (.pointer (some ⟨sv, 0, none⟩))) 93)) := (zri _ _).alloc (zra _) _
  refine ⟨?_, hI.below hb, fun i hi => absurd hi (Nat.not_lt_zero _), fun i j hi => absurd hi (Nat.not_lt_zero _), ⟨hB1.size, hsv', fun i hi => absurd hi (Nat.not_lt_zero _), zrc hB1.size hb.size⟩⟩
  rw [ujr (cs := newCs 0 (fun _ => 0)) (cs' := fun _ => ⟨.pointer none, false, false, .slice none 0 0⟩) (fun i _ => by unfold newCs; rw [if_neg (Nat.not_lt_zero _)])]
  exact Blk.new w1 93 _
 have HB2 := zrj (hB1.alloc hB1.size (.cells ((hubA (.pointer none) (fun _ => ⟨.pointer none, false, false, .slice none 0 0⟩)).setIfInBounds 0 (.pointer (some ⟨sv, 0, none⟩))) 93))
 have hgl : w.heap.size <= w1.heap.size := hB1.size
 clear hI hB1 hsv' hzh
 generalize w1.alloc _ = w2 at *
 generalize w1.heap.size = g at *
 generalize Array.setIfInBounds _ _ _ = zv at *
 go_loopw [19] (fun i wr => ∃ (n : Nat) (fd : Nat -> Nat), n <= 8 ∧ i = .int .i64 n ∧ NewM wr w.heap.size g sv n fd s ∧ Below w.heap.size w wr) (fun i _ => 8 - (intOf i).toNat)
 case atStart => exact ⟨0, _, Nat.zero_le _, rfl, N0, HB2.out⟩
 case round =>
  obtain ⟨n, fd, hn, rfl, Nn, hBn⟩ := hrel
  clear N0 HB2
  by_cases hlt : n < 8
  ·have hni : (n : Int) < 8 := by omega
   have hn0 : ¬ (n : Int) < 0 := by omega
   go_upto_region 8 with fail
   have Nd := Nn.below (zri _ wr).drew
   have hBd := hBn.drew
   clear Nn hBn
   refine wp_region_held_drew (S := fun _ => True) (by kernel_rfl) trivial (fun hHeld => ?_)
   generalize wr.drew = W0 at *
   refine tq 0 ?_
   refine tq 1 ?_
   refine tq 3 ?_
   refine tq 4 ?_
   refine tr 2 rfl (fun K hK => ?_)
   go_simp
   refine (wz9 W0).mono ?_
   rintro e W1 ⟨rfl, rfl⟩
   refine hK.out _ _ trivial (fun hHeld => ?_)
   clear hK K
   (try simp only [Act.put, ma, mb, mc, md, me, mf])
   refine tq 5 ?_
   refine tq 6 ?_
   have Ns := Nd.step hlt
   have y0 : (W0.alloc (.cells #[.string .empty, .int .i64 0, .int .i64 0] 112)).cell? ⟨g, 1 + n * 4, none⟩ = some (.pointer none) := by
    rw [(Nd.b.alloc _).cell, xxn hlt]; unfold newCs; rw [if_neg (Nat.lt_irrefl _)]
   have y1 : (W0.alloc (.cells #[.string .empty, .int .i64 0, .int .i64 0] 112)).frozen? ⟨g, 1 + n * 4, none⟩ = false := (Nd.b.alloc _).frozen _
   have hBs : Below w.heap.size w ((W0.alloc (.cells #[.string .empty, .int .i64 0, .int .i64 0] 112)).setCell ⟨g, 1 + n * 4, none⟩ (.pointer (some ⟨W0.heap.size, 0, none⟩))) := (hBd.alloc hBd.size _).setCell (p := ⟨g, 1 + n * 4, none⟩) hgl _
   refine tr 7 rfl (fun K hK => ?_)
   go_simp
   refine hK.out _ _ trivial (fun hHeld => ?_)
   clear hK K y0 y1 Nd
   (try simp only [Act.put, ma, mb, mc, md, me, mf])
   refine wpAnyH_done (by kernel_rfl) ?_ _
   have HNs := zrj Ns
   have HBs := zrj hBs
   clear Ns hBs hBd
   go_wp2_with fail
   go_roundw
   case rel => exact ⟨n + 1, _, by omega, by go_num, HNs.out, HBs.out⟩
   case measure => simp [intOf]; omega
  ·obtain rfl : n = 8 := by omega
   have HN := zrj Nn.done
   have HB := zrj hBn
   clear Nn hBn
   go_wp2_with fail
   go_ret2
   exact ⟨g, sv, fd, _, rfl, HN.out, HB.out⟩
theorem vzh {w : World} {B g sv : Nat} {fd : Nat -> Nat} {ws : Nat -> Value} {h : HubD} (H : HubM w B g sv fd ws h) (F : Fine h.srv.st) :
  Calls prog 19 #[.pointer (some ⟨g, 0, none⟩)] w fun e w' => wy3 w h.srv.st e w' := by
 have hzs := uxk
 have hb0 : Below w.heap.size w (w.alloc (.cells zsv 26)) := (zri _ _).alloc (zra _) _
 have bz0 := Blk.new w 26 zsv
 have H0 := H.below hb0
 have c0 := H0.at_sv
 have HO := zrj (uvk sv h.srv _ H0.s F)
 clear H H0 F
 go_enter func19, ntmps19
 go_wp2_with fail
 generalize w.alloc _ = w0 at *
 refine HO.out.mono ?_
 rintro e w1 ⟨r1, r2, r3, e1, e2, e3, rfl, hO, hb1⟩
 have hB1 := hb0.trans (hb1.mono hb0.size)
 have bz1 := bz0.below hb1 bz0.lt
 have hS := zrj ((hO.other (growR w1 w.heap.size (stv h.srv.st r1 r2 r3 e1 e2 e3)) bz1 (by decide) (by decide) (by decide)).less hb0.size)
 have hB2 := zrj (uqi hB1 (zra _) (stv h.srv.st r1 r2 r3 e1 e2 e3))
 clear hO hB1 hb1 bz0 hb0 HO c0
 go_wp2_with (first | (refine uqf rfl _ _ _ rfl w.heap.size rfl _ _ (stv h.srv.st r1 r2 r3 e1 e2 e3) bz1 rfl uqh rfl (uvt _ _ _ _ _ _ _ _ _ _) ?_))
 refine bodyPost_ret (uq6 rfl _ rfl (bz1.setRow (stv h.srv.st r1 r2 r3 e1 e2 e3)) underlying26 rfl uqh) rfl ?_
 exact ⟨r1, r2, r3, e1, e2, e3, rfl, hS.out, hB2.out⟩
theorem uz8 {s : St} (F : Fine s) : SrvOk ⟨s, 0⟩ := ⟨F, Int.le_refl _, (by decide : (0 : Int) <= 1099511627776)⟩
theorem asks_out {s : St} (F : Fine s) {k : Nat} (hk : k < 8) {q : ReqD} (hq : reqE q = 0) (h89 : q.kind = 8 ∨ q.kind = 9) (hc : (doR ⟨s, 0⟩ q).code = 0) (ht : (sfrR 3 s).2 = 0) :
  (newH s).out k (encs [reqFr q]) = [⟨3, 4, encP 0 s.rev⟩, ⟨3, 1, (encR 3 s).1⟩] := by
 obtain ⟨h1, h2⟩ := wkc (v := ⟨s, 0⟩) h89
 have hr := (vj5 (uz8 F) q).2
 rw [hc, h2] at hr
 rw [(uwu (vx0 s) hk hq).1]
 unfold HubD.asked
 have hs : ((newH s).feed k (encs [reqFr q])).srv = ⟨s, 0⟩ := rfl
 rw [hs, h1]
 show ((((newH s).feed k (encs [reqFr q])).told k q).c k).waits = _
 have htd : ((newH s).feed k (encs [reqFr q])).told k q = (let r := doR ((newH s).feed k (encs [reqFr q])).srv q
   let h1 : HubD := (⟨r.srv, ((newH s).feed k (encs [reqFr q])).c⟩ : HubD).app k (repF r.code r.srv.st.rev)
   if r.code = 0 ∧ (q.kind = 8 ∨ q.kind = 9) then (h1.app k (telF r.srv)).upd k { (h1.app k (telF r.srv)).c k with watch := (h1.c k).watch || decide (q.kind = 9) } else h1) := xju _ _ _ hk
 rw [htd, hs]
 simp only [h2, hc]
 rw [if_pos ⟨trivial, h89⟩, uqr]
 unfold HubD.app
 rw [uqr, uqr]
 have hw : (((newH s).feed k (encs [reqFr q])).c k).waits = [] := by unfold HubD.feed; rw [uqr]; rfl
 show ((((newH s).feed k (encs [reqFr q])).c k).waits ++ repF 0 s.rev) ++ telF ⟨s, 0⟩ = _
 have hr' : repF 0 s.rev = [⟨3, 4, encP ((0 : Nat) : Int) s.rev⟩] := hr
 rw [hw, hr']
 unfold telF
 rw [if_neg (by simpa using ht)]
 rfl
def qGet : ReqD := ⟨8, noJ, noN, noL, ByteArray.empty, 0⟩
theorem vyb : reqE qGet = 0 := by decide +kernel
theorem xzt : (doR ⟨uzk, 0⟩ qGet).code = 0 := by decide +kernel
theorem wxl : (sfrR 3 uzk).2 = 0 := by decide +kernel
theorem vvt : (newH uzk).out 2 (uq4 qGet) = [⟨3, 4, encP 0 4⟩, ⟨3, 1, (encR 3 uzk).1⟩] := by
 unfold uq4
 rw [if_pos vyb]
 exact asks_out ((uxi _).1 vq2) (by decide) vyb (.inl rfl) xzt wxl
theorem xx3 (s : St) {k : Nat} (hk : k < 8) {q : ReqD} (hq : reqE q = 0) : newF ((newH s).c k).L (uq4 q) = [reqFr q] := by
 unfold uq4
 rw [if_pos hq]
 have := (uy5 (fs := []) (gs := [reqFr q]) (by simp) (by intro x hx; rw [List.mem_singleton.1 hx]; exact ujt hq)).1
 rw [uxn] at this
 exact this
theorem vw2 (h : HubD) (k : Nat) (s : List UInt8) (n i : Nat) : (encs (((h.feed k s).frames k ((newF (h.c k).L s).take n)).c i).waits).length <= h.len i + (newF (h.c k).L s).length * 18054 := by
 have h1 := vza k ((newF (h.c k).L s).take n) (h.feed k s) i
 rw [wki] at h1
 have h2 : ((newF (h.c k).L s).take n).length <= (newF (h.c k).L s).length := by rw [List.length_take]; omega
 have h3 := Nat.mul_le_mul_right 18054 h2
 exact zrc h1 (by omega)
theorem vxk (s : St) (i : Nat) : (newH s).len i = 0 := by show (encs []).length = 0; rw [uxn]; rfl
def uvy : St := ⟨0, [], [], []⟩
def qPutA : ReqD := ⟨1, ⟨⟨#[97]⟩, 0, 0, 0, ByteArray.empty⟩, noN, noL, ByteArray.empty, 0⟩
theorem vy7 : uqv uvy = 0 := by decide +kernel
theorem vjp : reqE qPutA = 0 := by decide +kernel
theorem ww8 : (doR ⟨uvy, 0⟩ qPutA).srv.st.jobs.length = 1 := by decide +kernel
theorem xje (s : St) {k : Nat} (hk : k < 8) {q : ReqD} (hq : reqE q = 0) : ((newH s).send k (uq4 q)).srv = (doR ⟨s, 0⟩ q).srv := by
 unfold uq4
 rw [if_pos hq]
 exact (uwu (vx0 s) hk hq).2.2.1
theorem xjd {s : St} (F : Fine s) {k : Nat} (hk : k < 8) {q : ReqD} (hq : reqE q = 0) : (encs ((newH s).out k (uq4 q))).length ≠ 0 := by
 unfold uq4
 rw [if_pos hq, (uwu (vx0 s) hk hq).1]
 have h := vqq (h := (newH s).feed k (encs [reqFr q])) (uz8 F) k q
 generalize ((((newH s).feed k (encs [reqFr q])).asked k q).c k).waits = l at *
 cases l with
 | nil => cases h
 | cons x r => rw [uje, zrb, ux0]; omega
theorem wz6 {s : St} {k : Nat} {l : List UInt8} (h0 : (decF l).e ≠ 0) : newF ((newH s).c k).L l = [] := by
 show newF [] l = []
 unfold newF
 rw [List.nil_append, uk5 l h0]
 rfl
theorem xxu {s : St} {k : Nat} {l : List UInt8} (h0 : (decF l).e ≠ 0) (h3 : (decF l).e ≠ 3) :
  (((newH s).send k l).c k).closed = true ∧ ((newH s).send k l).srv = ⟨s, 0⟩ ∧ (∀ i, i ≠ k -> ((newH s).send k l).c i = newC) ∧ ∀ i, ((newH s).send k l).len i = 0 := by
 have hs : (newH s).send k l = (((newH s).feed k l).close k (decF l).e).flush k := by
  unfold HubD.send
  rw [if_neg (by show ¬ (false = true); simp), xxv h0 h3]
 rw [hs]
 refine ⟨?_, rfl, fun i hi => ?_, fun i => ?_⟩
 ·unfold HubD.flush HubD.close
  rw [uqr, uqr]
 ·unfold HubD.flush HubD.close HubD.feed
  rw [uq1 _ _ hi, uq1 _ _ hi, uq1 _ _ hi]
  rfl
 ·unfold HubD.len
  by_cases hi : i = k
  ·subst hi; rw [ujh, uxn]; rfl
  ·unfold HubD.flush HubD.close HubD.feed
   rw [uq1 _ _ hi, uq1 _ _ hi, uq1 _ _ hi]
   show (encs []).length = 0
   rw [uxn]; rfl
theorem vv4 {h : HubD} {k : Nat} (hc : h.c k = newC) {q : ReqD} (hq : reqE q = 0) : newF (h.c k).L (uq4 q) = [reqFr q] := by
 rw [hc]
 unfold uq4
 rw [if_pos hq]
 have := (uy5 (fs := []) (gs := [reqFr q]) (by simp) (by intro x hx; rw [List.mem_singleton.1 hx]; exact ujt hq)).1
 rw [uxn] at this
 exact this
theorem req_work {h : HubD} {k : Nat} (hc : h.c k = newC) {q : ReqD} (hq : reqE q = 0) : h.work k (uq4 q) = (h.feed k (uq4 q)).asked k q := by
 have h1 := vv4 hc hq
 have h2 : errF ((h.c k).L ++ uq4 q) = 0 := by
  rw [hc]
  unfold uq4
  rw [if_pos hq]
  have := (uy5 (fs := []) (gs := [reqFr q]) (by simp) (by intro x hx; rw [List.mem_singleton.1 hx]; exact ujt hq)).2
  rw [uxn] at this
  exact this
 have hf0 : ((h.feed k (uq4 q)).c k).closed = false := by unfold HubD.feed; rw [uqr]; show (h.c k).closed = false; rw [hc]; rfl
 unfold HubD.work
 rw [h1, h2, uyu]
 show HubD.step k _ _ = _
 unfold HubD.step
 rw [if_neg (by rw [hf0]; simp), vkb hq]
theorem req_send {h : HubD} (hv : SrvOk h.srv) {k : Nat} (hc : h.c k = newC) {q : ReqD} (hq : reqE q = 0) : (encs (h.out k (uq4 q))).length ≠ 0 ∧ ((h.send k (uq4 q)).c k).closed = false := by
 have ho : (h.c k).closed = false := by rw [hc]; rfl
 unfold HubD.out HubD.send
 rw [if_neg (by rw [ho]; simp), if_neg (by rw [ho]; simp), req_work hc hq]
 constructor
 ·have h1 := vqq (h := h.feed k (uq4 q)) hv k q
  generalize (((h.feed k (uq4 q)).asked k q).c k).waits = l at *
  cases l with
  | nil => cases h1
  | cons x r => rw [uje, zrb, ux0]; omega
 ·unfold HubD.flush
  rw [uqr]
  show (((h.feed k (uq4 q)).asked k q).c k).closed = false
  rw [(uw2 _ _ _ _).1]
  unfold HubD.feed
  rw [uqr]
  exact ho
theorem vjm (h : HubD) (k : Nat) (s : List UInt8) (n i : Nat) : (encs ((h.mid k s n).c i).waits).length <= h.len i + (newF (h.c k).L s).length * 18054 := vw2 h k s n i
theorem vqc (fs : List Fr) (hg : ∀ x ∈ fs, uzt x) (hl : fs.length <= 4398046511104) (w : World) (g : Nat) (hf : FeedIs w g []) :
  Calls prog 17 #[.pointer (some ⟨g, 0, none⟩), .string (bstr (encs fs))] w fun e w' => ∃ a c, e = .returned (.tuple #[.slice a fs.length c, .int .i64 0]) ∧ Elts w' w'.heap.size 3 a (fs.map rowFr) ∧ (∀ ad, a = some ad -> w.heap.size <= ad.block) ∧ FeedIs w' g (encs fs) ∧ Asd w g w' := by
 have hn := uy5 (fs := []) (gs := fs) (by simp) hg
 rw [uxn] at hn
 have hsz := vww fs hg
 refine (wvb g [] (bstr (encs fs)) w hf (by rw [uqy]; omega) (fun outs ho => by rw [vqx ho, uqu, hn.1]; exact hl)).mono ?_
 rintro e w' ⟨a, c, outs, rfl, hel, hge, hou, hfe, hasd⟩
 have ho := vqx hou
 rw [uqu, hn.1] at ho
 subst ho
 rw [uqu, List.nil_append] at hfe ⊢
 have h2 := hn.2
 rw [List.nil_append] at h2
 rw [h2]
 exact ⟨a, c, rfl, hel, hge, hfe, hasd⟩
theorem vqy (w : World) : Calls prog 16 #[] w fun e w' => ∃ g, e = .returned (.pointer (some ⟨g, 0, none⟩)) ∧ w.heap.size <= g ∧ FeedIs w' g [] ∧ Below w.heap.size w w' := by
 refine (wz9 w).mono ?_
 rintro e w' ⟨rfl, rfl⟩
 exact ⟨w.heap.size, rfl, zra _, FeedIs.nil (Blk.new w _ _), (zri _ _).alloc (zra _) _⟩
theorem wqy {l : List UInt8} (h : l.length ≠ 0) : (bstr l).toList.isEmpty = false := by
 rw [vjy]
 cases l with
 | nil => exact absurd rfl h
 | cons a r => rfl
end Go.Proofs.YtibiankbmhdljaaGreatDoor
