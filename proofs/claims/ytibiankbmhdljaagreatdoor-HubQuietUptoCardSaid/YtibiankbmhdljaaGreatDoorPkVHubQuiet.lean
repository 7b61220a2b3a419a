/-
  Several texts in one: VHubQuiet.
-/
import Derived.Test.YtibiankbmhdljaaGreatDoorPkFact
import Derived.Test.YtibiankbmhdljaaGreatDoorPkActs
set_option linter.all false
set_option maxHeartbeats 16000000
set_option maxRecDepth 100000
namespace Go.Proofs.YtibiankbmhdljaaGreatDoor.hubQuiet
open Go.ChangeShapes Go.WideShapes Go.ChangeAt Go.RowKit Go.Joins
open Go.ChangeMaps (open_string)
theorem walk (s0 : St) (pj0 pn0 pl0 : Option Addr) (cj0 cn0 cl0 : Nat) (w : World) (hm0 : StM w w.heap.size pj0 pn0 pl0 s0) (hk0 : StOk s0) (pq1 : Option Addr) (cq1 : Nat) (l1 : List ActD) (hel1 : Elts w w.heap.size 2 pq1 (l1.map rowA)) (hok1 : ∀ x ∈ l1, okA x) (ub1 : uzq l1 + l1.length ≤ 1048576) (hT : Tabs w) :
  Calls Tryz.prog 7 #[.agg (stv s0 pj0 pn0 pl0 cj0 cn0 cl0), .slice pq1 l1.length cq1] w fun e w' => e = .returned (.bool true) ∧ Below w.heap.size w w' := by
 have b0_ := Blk.new w 26 (stv s0 pj0 pn0 pl0 cj0 cn0 cl0)
 have c0 := (zri w.heap.size w).alloc (zra _) (.cells (stv s0 pj0 pn0 pl0 cj0 cn0 cl0) 26)
 have HM := zrj hm0
 have HZ := zrj hk0.sz
 have HT := zrj hT
 clear hm0 hk0 hT
 have HEL := zrj hel1
 have HUB := zrj ub1
 have hza := uyo
 have hemp : ByteArray.empty.toList.isEmpty = true := by rw [ByteArray.toList_eq]; rfl
 have hll : l1.length ≤ 1048576 := by omega
 clear hel1 hok1 ub1
 by_cases hE : uqv s0 = 0
 rotate_left
 ·have hne : (((uqv s0 : Nat) : Int) != 0) = true := by rw [bne_iff_ne]; omega
  have HE := zrj hE
  clear hE
  go_enter Tryz.func7, Tryz.ntmps7
  go_wp2_with (first | (refine uqa (by rfl) _ _ rfl (w.heap.size) rfl _ _ b0_ _ Tryz.underlying26 rfl uqh ?_))
  generalize w.alloc _ = W1 at *
  refine (uzv _ (HT.out.below c0)).mono ?_
  rintro e w1 ⟨rfl, hb2⟩
  have b3 := b0_.below hb2 b0_.lt
  have c4 := c0.trans (hb2.mono c0.size)
  clear b0_ c0 hb2
  go_wp2_with (first | (refine uqa (by rfl) _ _ rfl (w.heap.size) rfl _ _ b3 _ Tryz.underlying26 rfl uqh ?_))
  refine (vxh s0 _ _ _ _ _ _ _ ((HM.out.below c4).more c4.size) HZ.out (HT.out.below c4) HE.out).mono ?_
  rintro e w5 ⟨rfl, hb6⟩
  have b7 := b3.below hb6 b3.lt
  have c8 := c4.trans (hb6.mono c4.size)
  clear b3 c4 hb6
  go_wp2_with (first | (refine uqa (by rfl) _ _ rfl (w.heap.size) rfl _ _ b7 _ Tryz.underlying26 rfl uqh ?_))
  go_ret
  exact ⟨rfl, c8⟩
 have HE := zrj hE
 have F0 := zrj ((uxi s0).1 hE)
 clear hE
 go_enter Tryz.func7, Tryz.ntmps7
 go_wp2_with (first | (refine uqa (by rfl) _ _ rfl (w.heap.size) rfl _ _ b0_ _ Tryz.underlying26 rfl uqh ?_))
 generalize w.alloc _ = W1 at *
 refine (uzv _ (HT.out.below c0)).mono ?_
 rintro e w9 ⟨rfl, hb10⟩
 have b11 := b0_.below hb10 b0_.lt
 have c12 := c0.trans (hb10.mono c0.size)
 clear b0_ c0 hb10
 go_wp2_with (first | (refine uqa (by rfl) _ _ rfl (w.heap.size) rfl _ _ b11 _ Tryz.underlying26 rfl uqh ?_))
 refine (uya s0 _ _ _ _ _ _ _ ((HM.out.below c12).more c12.size) HZ.out (HT.out.below c12) HE.out).mono ?_
 rintro e wN ⟨g, sv, fd, ws, rfl, HN_, hbN⟩
 have hB := zrj c12.size
 have HN := zrj HN_
 clear HN_
 have b13 := b11.below hbN b11.lt
 have c14 := c12.trans (hbN.mono c12.size)
 clear b11 c12 hbN
 go_wp2_with (first | (refine uqa (by rfl) _ _ rfl (w.heap.size) rfl _ _ b13 _ Tryz.underlying26 rfl uqh ?_))
 have CH := zrj c14
 clear c14 b13
 go_loopw [35] (fun i wr => ∃ (n : Nat) (h : HubD) (wsn : Nat → Value), n ≤ l1.length ∧ i = .int .i64 n ∧ HubM wr w9.heap.size g sv fd wsn h ∧ HubC wN g sv fd ws wr wsn ∧ Hid (QI h 8)) (fun i _ => l1.length - (intOf i).toNat)
 case atStart => exact ⟨0, newH s0, ws, Nat.zero_le _, rfl, HN.out, HubC.refl _ _ _ _ _, zrj (QI.new F0.out)⟩
 case round =>
  obtain ⟨n, h, wsn, hn, rfl, Hn, Cn, Qn⟩ := hrel
  by_cases hlt : n < l1.length
  ·have hx : l1[n]? = some l1[n] := zrd hlt
   have hub := wy6 (List.getElem_mem hlt) HUB.out
   have cc := CH.out.trans ((Cn.under HN.out).mono hB.out)
   generalize l1[n] = x at *
   obtain ⟨a, rfl, hab, _, hat⟩ := (HEL.out.below cc).at_ (k := n) (r := rowA x) (by rw [zrg, hx]; rfl)
   have hb1 : Below wr.heap.size wr (wr.alloc (.cells #[.int .i64 x.conn, .string x.bytes] 75)) := (zri _ _).alloc (zra _) _
   have bx := Blk.new wr 75 #[.int .i64 x.conn, .string x.bytes]
   have HHn := zrj (Hn.below hb1)
   have HCn := zrj (Cn.below hb1)
   have x0 : (wr.alloc (.cells #[.int .i64 x.conn, .string x.bytes] 75)).cell? ⟨wr.heap.size, 0, none⟩ = some (.int .i64 x.conn) := bx.cell 0
   have x1 : (wr.alloc (.cells #[.int .i64 x.conn, .string x.bytes] 75)).cell? ⟨wr.heap.size, 1, none⟩ = some (.string x.bytes) := bx.cell 1
   have HTB := zrj (fun W (hW : Below (w9.heap.size) (wr.alloc (.cells #[.int .i64 x.conn, .string x.bytes] 75)) W) => HT.out.below ((cc.trans (hb1.mono cc.size)).trans (hW.mono hB.out)))
   clear Hn Cn hx hab hb1 cc bx
   obtain ⟨cn, by_⟩ := x
   simp only at hub x0 x1 hat
   go_upto_if 41 with (first | (refine uqe rfl _ _ rfl (a.add (n * 2)) rfl [Value.int .i64 cn, Value.string by_] _ hat Tryz.underlying75 rfl vjc ?_) | (refine uqg rfl _ _ _ rfl rfl 75 _ #[.int .i64 cn, .string by_] rfl vjc rfl (xx2 _ _) ?_))
   generalize wr.alloc _ = W1 at *
   generalize wr.heap.size = gx at *
   clear hat
   go_cut [] (fun wx => ∃ (h1 : HubD) (ws1 : Nat → Value), HubM wx w9.heap.size g sv fd ws1 h1 ∧ HubC wN g sv fd ws wx ws1 ∧ Hid (QI h1 0))
   case first =>
    by_cases h6 : cn = 6
    ·have n6 : (cn != 6) = false := by rw [bne_eq_false_iff_eq]; exact h6
     clear h6
     go_wp2_with fail
     go_meet
     exact ⟨h, wsn, HHn.out, HCn.out, zrj (Qn.out.less (Nat.zero_le _))⟩
    ·have n6 : (cn != 6) = true := by rw [bne_iff_ne]; exact h6
     by_cases hr : cn < 0 ∨ 8 ≤ cn
     ·have HS := zrj (wqi (w := W1) g cn hr by_)
      clear h6 hr
      go_wp2_with fail
      refine HS.out.mono ?_
      rintro e w2 ⟨rfl, rfl⟩
      go_wp2_with fail
      go_meet
      exact ⟨h, wsn, HHn.out, HCn.out, zrj (Qn.out.less (Nat.zero_le _))⟩
     ·obtain ⟨k, rfl⟩ : ∃ k : Nat, cn = k := Int.eq_ofNat_of_zero_le (by omega)
      have hk : k < 8 := by omega
      have hk6 : k ≠ 6 := by omega
      cases hcl : (h.c k).closed
      ·have HS := zrj (ukm HHn.out hk Qn.out.v HTB.out by_ (by omega) (by have h2 := vjn (h.c k).L by_.data.toList; rw [uk3] at h2; omega) (fun n i hi => Qn.out.bound k by_.data.toList (by rw [uk3]; exact hub) n i hi) hcl)
       have HQ := zrj (Qn.out.send hk6 by_.data.toList)
       clear h6 hr hk6 hcl
       go_wp2_with fail
       refine HS.out.mono ?_
       rintro e w2 ⟨rfl, ws2, H2, C2⟩
       go_wp2_with fail
       go_meet
       exact ⟨_, ws2, H2, HCn.out.trans C2, HQ⟩
      ·have HS := zrj (vzg HHn.out hk by_ hcl)
       clear h6 hr hk6 hcl
       go_wp2_with fail
       refine HS.out.mono ?_
       rintro e w2 ⟨rfl, rfl⟩
       go_wp2_with fail
       go_meet
       exact ⟨h, wsn, HHn.out, HCn.out, zrj (Qn.out.less (Nat.zero_le _))⟩
   case rest =>
    obtain ⟨h1, ws1, H1, C1, Q1⟩ := hcut
    clear HHn HCn x0 x1 HTB hub Qn
    go_wp2_with fail
    go_loopw [48] (fun i wx => ∃ (k : Nat) (h2 : HubD) (ws2 : Nat → Value), k ≤ 8 ∧ i = .int .i64 k ∧ HubM wx w9.heap.size g sv fd ws2 h2 ∧ HubC wN g sv fd ws wx ws2 ∧ Hid (QI h2 k)) (fun i _ => 8 - (intOf i).toNat)
    case atStart => exact ⟨0, h1, ws1, Nat.zero_le _, rfl, H1, C1, Q1⟩
    case round =>
     obtain ⟨k, h2, ws2, hk8, rfl, H2, C2, Q2⟩ := hrel
     clear H1 C1 Q1
     by_cases hlt2 : k < 8
     ·have HO1 := zrj (vjl H2 hlt2)
      have HC2 := zrj C2
      clear H2 C2
      go_wp2_with fail
      refine HO1.out.mono ?_
      rintro e w3 ⟨rfl, ws3, H3, C3⟩
      have HC3 := zrj (HC2.out.trans C3)
      have HO := vjl H3 hlt2
      rw [ujh, uxn, show bstr [] = ByteArray.empty from rfl] at HO
      have HO2 := zrj HO
      clear HO H3 C3 HO1 HC2
      generalize bstr (encs (h2.c k).waits) = o1 at *
      go_wp2_with fail
      refine HO2.out.mono ?_
      rintro e w4 ⟨rfl, ws4, H4, C4⟩
      have HC4 := zrj (HC3.out.trans C4)
      have HH4 := zrj H4
      clear C4 H4 HO2 HC3
      go_wp2_with fail
      go_roundw
      case rel => exact ⟨k + 1, _, ws4, by omega, by go_num, HH4.out, HC4.out, zrj (Q2.out.next.flush k)⟩
      case measure => simp [intOf]; omega
     ·obtain rfl : k = 8 := by omega
      have HO := vjl H2 (k := 6) (by decide)
      rw [Q2.out.w 6 (by decide), uxn, show bstr [] = ByteArray.empty from rfl] at HO
      have HO2 := zrj HO
      have HC2 := zrj C2
      clear HO H2 C2
      go_wp2_with fail
      refine HO2.out.mono ?_
      rintro e w3 ⟨rfl, ws3, H3, C3⟩
      have HC3 := zrj (HC2.out.trans C3)
      have HH3 := zrj H3
      clear H3 C3 HO2 HC2
      go_wp2_with fail
      go_roundw
      case rel => exact ⟨n + 1, _, ws3, by omega, by go_num, HH3.out, HC3.out, zrj (Q2.out.flush 6)⟩
      case measure => simp [intOf]; omega
  ·obtain rfl : n = l1.length := by omega
   have HO := vkg Hn (k := 6) (by decide)
   rw [Qn.out.c, show newC.closed = false from rfl, Bool.not_false] at HO
   have HO2 := zrj HO
   have HF := zrj (CH.out.trans ((Cn.under HN.out).mono hB.out))
   clear HO Hn Cn
   go_wp2_with fail
   refine HO2.out.mono ?_
   rintro e w3 ⟨rfl, rfl⟩
   go_wp2_with fail
   go_ret
   exact ⟨rfl, HF.out⟩
end Go.Proofs.YtibiankbmhdljaaGreatDoor.hubQuiet
