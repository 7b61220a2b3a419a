/-
  Several texts in one: UtfQ, UtfN, AtJ, AtN.
-/
import Derived.Test.YtibiankbmhdljabGreatDoorPgStateA
import Derived.Test.YtibiankbmhdljabGreatDoorPgRefU
set_option linter.all false
set_option maxHeartbeats 16000000
set_option maxRecDepth 100000
namespace Go.Proofs.YtibiankbmhdljabGreatDoor
open Go.Proofs.Tryz
open Go.ChangeShapes Go.WideShapes Go.ChangeAt Go.RowKit Go.Joins
theorem uky (n a b : Int) (w : World) : Calls prog 85 #[.int .i64 n, .int .i64 a, .int .i64 b] w fun e w' => e = .returned (.bool (decide (n < a) || decide (n > b))) ∧ Below w.heap.size w w' := by
  go_enter func85, ntmps85
  go_wp2_with fail
  · go_ret
    refine ⟨?_, zri _ _⟩
    rfl
  · go_ret
    refine ⟨?_, zri _ _⟩
    simp_all
theorem xjx (s : ByteArray) (w : World) (hs : s.size <= 4611686018427387904) : Calls prog 228 #[.string s] w fun e w' => e = .returned (.bool (Lib.validD s.data.toList)) ∧ Below w.heap.size w w' := by
  go_enter func228, ntmps228
  go_wp2_with fail
  go_loopw [3] (fun i wr => ∃ k : Nat, k <= s.size ∧ i = .int .i64 k ∧ Below w.heap.size w wr ∧ Hid (Lib.validD s.data.toList = Lib.validD (s.data.toList.drop k))) (fun i _ => s.size - (intOf i).toNat)
  case atStart => exact ⟨0, by omega, rfl, zri _ _, zrj (by rw [List.drop_zero])⟩
  case round =>
    obtain ⟨k, hk, rfl, hb, H⟩ := hrel
    by_cases hlt : k < s.size
    · have hlen : s.data.toList.length = s.size := by simp
      have hS := uStep s.data.toList k (by omega)
      rw [<- H.out] at hS
      have hSg : uOk s.data.toList k -> Lib.validD s.data.toList = Lib.validD (s.data.toList.drop (k + (uMany (uB s.data.toList k) + 1))) := hS.1
      have hSb : ¬ uOk s.data.toList k -> Lib.validD s.data.toList = false := hS.2
      unfold uOk at hSg hSb
      rw [hlen] at hSg hSb
      have hcb := uB_lt s.data.toList k
      have hw : wrap64 (((s[k]'hlt).toNat : Nat) : Int) = ((uB s.data.toList k : Nat) : Int) := by rw [uB_get]; unfold wrap64; omega
      have HW := zrj hw
      generalize uB s.data.toList k = c at hSg hSb hcb hw HW
      have HG := zrj hSg
      have HB := zrj hSb
      have HV := zrj hlen
      clear hSg hSb hS hw hlen H
      go_upto_block 2 with (fail)
      rw [HW.out]
      go_cut [5, 6, 7] (fun m lo hi wx => m = .int .i64 (uMany c : Nat) ∧ lo = .int .i64 (uLo c : Nat) ∧ hi = .int .i64 (uHi c : Nat) ∧ uMany c <= 3 ∧ wx = wr)
      case first =>
        go_wp2_with fail
        all_goals first
          | (go_meet
             refine ⟨congrArg (Value.int .i64) ?_, congrArg (Value.int .i64) ?_, congrArg (Value.int .i64) ?_, ?_, rfl⟩
             · unfold uMany; (repeat' split) <;> first | omega | (simp only [beq_iff_eq, zrf, ne_eq] at *; omega)
             · unfold uLo; (repeat' split) <;> first | omega | (simp only [beq_iff_eq, zrf, ne_eq] at *; omega)
             · unfold uHi; (repeat' split) <;> first | omega | (simp only [beq_iff_eq, zrf, ne_eq] at *; omega)
             · unfold uMany; (repeat' split) <;> first | omega | (simp only [beq_iff_eq, zrf, ne_eq] at *; omega))
          | (go_ret
             refine ⟨?_, hb⟩
             rw [HB.out (fun h => absurd h.1 (by unfold uMany; (repeat' split) <;> omega))]
             rfl)
          | skip
      case rest =>
        obtain ⟨rfl, rfl, rfl, hm3, rfl⟩ := hcut
        have hkm : IntKind.i64.wrap ((k : Int) + (uMany c : Int)) = (k : Int) + (uMany c : Int) := IntWalk.i64_in _ (by omega)
        by_cases hin : k + uMany c < s.size
        · have hin2 : ¬ ((s.size : Int) <= (k : Int) + (uMany c : Int)) := by omega
          go_wp2_with fail
          go_loopw [6, 7, 8] (fun lo hi j wx => ∃ t : Nat, 1 <= t ∧ t <= uMany c + 1 ∧ j = .int .i64 t ∧ lo = .int .i64 (uL c t : Nat) ∧ hi = .int .i64 (uH c t : Nat) ∧ Below w.heap.size w wx ∧ Hid (∀ x, 1 <= x -> x < t -> uFit c x (uB s.data.toList (k + x)))) (fun _ _ j _ => uMany c + 1 - (intOf j).toNat)
          case atStart => exact ⟨1, by omega, by omega, rfl, rfl, rfl, hb, zrj (fun x h1 h2 => by omega)⟩
          case round =>
            obtain ⟨t, ht1, ht2, rfl, rfl, rfl, hb2, HF⟩ := hrel
            by_cases htm : t <= uMany c
            · have htm2 : (t : Int) <= (uMany c : Int) := by omega
              have hkt : IntKind.i64.wrap ((k : Int) + (t : Int)) = (k : Int) + (t : Int) := IntWalk.i64_in _ (by omega)
              have ht3 : IntKind.i64.wrap ((t : Int) + 1) = ((t + 1 : Nat) : Int) := by rw [IntWalk.i64_in _ (by omega)]; omega
              have hlt2 : (k : Int) + (t : Int) < (s.size : Int) := by omega
              have hlt3 : (0 : Int) <= (k : Int) + (t : Int) := by omega
              have hltn : k + t < s.size := by omega
              have hwj : wrap64 (((s[k + t]'hltn).toNat : Nat) : Int) = ((uB s.data.toList (k + t) : Nat) : Int) := by rw [uB_get]; have := uB_lt s.data.toList (k + t); unfold wrap64; omega
              have HWJ := zrj hwj
              clear hwj
              go_upto_region 26 with (fail)
              go_wp2_with (refine (uky _ _ _ _).mono ?_; rintro e w2 ⟨rfl, hb3⟩)
              · rename_i h
                rw [HWJ.out] at h
                go_ret
                refine ⟨?_, hb2.trans (hb3.mono hb2.size)⟩
                rw [HB.out (fun hh => by have := hh.2.2 t ht1 htm; unfold uFit at this; omega)]
                rfl
              · rename_i h
                rw [HWJ.out] at h
                refine ⟨⟨t + 1, by omega, by omega, congrArg (Value.int .i64) (by omega), congrArg (Value.int .i64) ?_, congrArg (Value.int .i64) ?_, hb2.trans (hb3.mono hb2.size), zrj (fun x h1 h2 => ?_)⟩, ?_⟩
                · unfold uL; rw [if_neg (by omega)]; rfl
                · unfold uH; rw [if_neg (by omega)]; rfl
                · by_cases hx : x = t
                  · subst hx; unfold uFit; omega
                  · exact HF.out x h1 (by omega)
                · show uMany c + 1 - ((t : Int) + 1).toNat < uMany c + 1 - (t : Int).toNat
                  omega
            · have htm2 : ¬ (t : Int) <= (uMany c : Int) := by omega
              have hq1 : IntKind.i64.wrap ((uMany c : Int) + 1) = (uMany c : Int) + 1 := IntWalk.i64_in _ (by omega)
              have hq2 : IntKind.i64.wrap ((k : Int) + ((uMany c : Int) + 1)) = (k : Int) + ((uMany c : Int) + 1) := IntWalk.i64_in _ (by omega)
              go_wp2_with fail
              refine ⟨⟨k + (uMany c + 1), by omega, congrArg (Value.int .i64) (by omega), hb2, zrj (HG.out ⟨hm3, hin, fun x h1 h2 => HF.out x h1 (by omega)⟩)⟩, ?_⟩
              show s.size - ((k : Int) + ((uMany c : Int) + 1)).toNat < s.size - (k : Int).toNat
              omega
        · have hin2 : (s.size : Int) <= (k : Int) + (uMany c : Int) := by omega
          go_wp2_with fail
          go_ret
          refine ⟨?_, hb⟩
          rw [HB.out (fun h => absurd h.2.1 hin)]
          rfl
    · go_wp2_with fail
      go_ret
      refine ⟨?_, hb⟩
      rw [H.out, wy1 _ _ (by simp; omega)]
      rfl
theorem vkj (s : ByteArray) (w : World) (hs : s.size <= 9223372036854775807) :
  Calls prog 207 #[.string s] w fun e w' => e = .returned (.bool (ux0 s)) ∧ Below w.heap.size w w' := by
 unfold ux0
 change Calls _ _ _ _ (fun e w' => e = .returned (.bool (decide (s.size <= 16) && vT s)) ∧ _)
 by_cases h : s.size <= 16
 ·have H1 := zrj (xjx s w (by omega))
  have e1 : (decide (s.size <= 16) && vT s) = vT s := by simp [h]
  rw [e1]
  clear e1
  go_enter func207, ntmps207
  go_wp2_with fail
  refine H1.out.mono ?_
  rintro e w1 ⟨rfl, hb1⟩
  go_wp2_with fail
  go_ret
  exact ⟨rfl, hb1⟩
 ·have e1 : (decide (s.size <= 16) && vT s) = false := by simp [h]
  rw [e1]
  clear e1
  go_enter func207, ntmps207
  go_wp2_with fail
  go_ret
  exact ⟨rfl, zri _ _⟩
theorem wxg (s : ByteArray) (w : World) (hs : s.size <= 9223372036854775807) :
  Calls prog 206 #[.string s] w fun e w' => e = .returned (.bool (uq9 s)) ∧ Below w.heap.size w w' := by
 have h1 := vkj s w hs
 unfold uq9
 have H1 := zrj h1
 clear h1
 by_cases h : 0 < s.size
 ·have e1 : (decide (0 < s.size) && ux0 s) = ux0 s := by simp [h]
  rw [e1]
  have hne : s.toList ≠ [] := by
   rw [ByteArray.toList_eq]; intro h0
   have := ukr s
   rw [h0, List.length_nil] at this; omega
  have b1 : (!s.toList.isEmpty) = true := by cases hh : s.toList with | nil => exact absurd hh hne | cons a b => rfl
  clear e1 hne
  go_enter func206, ntmps206
  go_wp2_with fail
  refine H1.out.mono ?_
  rintro e w1 ⟨rfl, hb1⟩
  go_wp2_with fail
  go_ret
  exact ⟨rfl, hb1⟩
 ·have e1 : (decide (0 < s.size) && ux0 s) = false := by simp [h]
  rw [e1]
  obtain rfl : s = ByteArray.empty := ByteArray.size_eq_zero_iff.1 (by omega)
  clear e1
  go_enter func206, ntmps206
  go_wp2_with fail
  go_ret
  exact ⟨rfl, zri _ _⟩
theorem wv9 (n : NodeD) (w : World) (h0 : n.name.size <= 9223372036854775807) (h1 : n.zone.size <= 9223372036854775807) :
  Calls prog 174 #[.agg (rwN n)] w fun e w' => e = .returned (.int .i64 (nodeE n : Int)) ∧ Below w.heap.size w w' := by
 have hb0 : Below w.heap.size w (w.alloc (.cells (rwN n) 64)) := (zri _ _).alloc (zra _) _
 have bx0 := Blk.new w 64 (rwN n)
 have c0 := fun w => wxg n.name w h0
 have c1 := fun w => vkj n.zone w h1
 have H0 := zrj c0
 have H1 := zrj c1
 clear c0 c1
 have hE : nodeE n = (if uq9 n.name && ux0 n.zone then (if uq8 n.room 0 1000000 then 0 else 1) else 4) := rfl
 have hwi : uq8 n.room 0 1000000 = !(decide (n.room < 0) || decide (n.room > 1000000)) := by unfold uq8; rw [Bool.eq_iff_iff]; simp
 rw [hwi] at hE
 rw [hE]
 clear hE hwi
 obtain ⟨bo, hbo, HO⟩ : ∃ bo, (decide (n.room < 0) || decide (n.room > 1000000)) = bo ∧ Hid (∀ W : World, Calls prog 85 #[.int .i64 n.room, .int .i64 0, .int .i64 1000000] W fun e w' => e = .returned (.bool bo) ∧ Below W.heap.size W w') := ⟨_, rfl, fun W => uky n.room 0 1000000 W⟩
 rw [hbo]
 clear hbo
 generalize uq9 n.name = q0 at *
 generalize ux0 n.zone = q1 at *
 cases q0
 ·go_enter func174, ntmps174
  go_wp2_with fail
  generalize w.alloc _ = W at *
  have e0 : W.cell? ⟨w.heap.size, 0, none⟩ = some (.string n.name) := bx0.cell 0
  go_wp2_with (refine (H0.out _).mono ?_; rintro e w2 ⟨rfl, hb2⟩)
  go_ret
  exact ⟨rfl, hb0.trans (hb2.mono hb0.size)⟩
 cases q1
 ·go_enter func174, ntmps174
  go_wp2_with fail
  generalize w.alloc _ = W at *
  have e0 : W.cell? ⟨w.heap.size, 0, none⟩ = some (.string n.name) := bx0.cell 0
  go_wp2_with fail
  refine (H0.out _).mono ?_
  rintro e w2 ⟨rfl, hb2⟩
  have bx2 := bx0.below hb2 bx0.lt
  have e2 : w2.cell? ⟨w.heap.size, 2, none⟩ = some (.string n.zone) := bx2.cell 2
  go_wp2_with fail
  refine (H1.out _).mono ?_
  rintro e w3 ⟨rfl, hb3⟩
  go_wp2_with fail
  go_ret
  have h2 := hb0.trans (hb2.mono hb0.size)
  exact ⟨rfl, h2.trans (hb3.mono h2.size)⟩
 ·go_enter func174, ntmps174
  go_wp2_with fail
  generalize w.alloc _ = W at *
  have e0 : W.cell? ⟨w.heap.size, 0, none⟩ = some (.string n.name) := bx0.cell 0
  go_wp2_with fail
  refine (H0.out _).mono ?_
  rintro e w2 ⟨rfl, hb2⟩
  have bx2 := bx0.below hb2 bx0.lt
  have e2 : w2.cell? ⟨w.heap.size, 2, none⟩ = some (.string n.zone) := bx2.cell 2
  go_wp2_with fail
  refine (H1.out _).mono ?_
  rintro e w3 ⟨rfl, hb3⟩
  have bx3 := bx2.below hb3 bx2.lt
  have e3 : w3.cell? ⟨w.heap.size, 1, none⟩ = some (.int .i64 n.room) := bx3.cell 1
  have h2 := hb0.trans (hb2.mono hb0.size)
  have h3 := h2.trans (hb3.mono h2.size)
  cases bo
  ·go_wp2_with (refine (HO.out _).mono ?_; rintro e w4 ⟨rfl, hb4⟩)
   go_ret
   exact ⟨rfl, h3.trans (hb4.mono h3.size)⟩
  ·go_wp2_with (refine (HO.out _).mono ?_; rintro e w4 ⟨rfl, hb4⟩)
   go_ret
   exact ⟨rfl, h3.trans (hb4.mono h3.size)⟩
theorem xqk (p : Option Addr) (c : Nat) (l : List JobD) (nm : ByteArray) (w : World) (hel : Elts w w.heap.size 5 p (l.map rowJ)) (hl : l.length <= 4611686018427387904) :
  Calls prog 137 #[.slice p l.length c, .string nm] w fun e w' => e = .returned (.int .i64 (ixBy JobD.name l nm 0)) ∧ Below w.heap.size w w' := by
 go_enter func137, ntmps137
 go_wp2_with fail
 go_loopw [9] (fun i wr => ∃ k : Nat, k <= l.length ∧ i = .int .i64 k ∧ Below w.heap.size w wr ∧ Hid (ixBy JobD.name l nm 0 = ixBy JobD.name (l.drop k) nm k)) (fun i _ => l.length - (intOf i).toNat)
 case atStart => exact ⟨0, Nat.zero_le _, rfl, zri _ _, (show _ = _ from rfl)⟩
 case round =>
  obtain ⟨k, hk, rfl, hbr, HR⟩ := hrel
  by_cases hlt : k < l.length
  ·have hx : l[k]? = some l[k] := zrd hlt
   have hdr := uw9 l k _ hx
   generalize l[k] = x at *
   obtain ⟨a, ha, hab, _, hat⟩ := (hel.below hbr).at_ (k := k) (r := rowJ x) (by rw [zrg, hx]; rfl)
   subst ha
   have hb5 := hbr.alloc hbr.size (.cells (rwJ x) 62)
   have HR0 := HR.out
   rw [hdr] at HR0
   rw [vxd] at HR0
   by_cases hq : JobD.name x = nm
   ·rw [if_pos hq] at HR0
    have hb : ((JobD.name x).toList == nm.toList) = true := by rw [hq]; simp
    have HF := zrj HR0
    clear HR0 HR hdr hx hq
    go_wp2_with (refine uqb rfl _ _ rfl (a.add (k * 5)) rfl (rlJ x) _ hat underlying62 rfl uqp ?_)
    go_ret
    exact ⟨by rw [HF.out]; rfl, hb5⟩
   ·rw [if_neg hq] at HR0
    have hb : ((JobD.name x).toList == nm.toList) = false := wzf hq
    have HF := zrj HR0
    clear HR0 HR hdr hx hq
    go_wp2_with (refine uqb rfl _ _ rfl (a.add (k * 5)) rfl (rlJ x) _ hat underlying62 rfl uqp ?_)
    go_roundw
    case rel => exact ⟨k + 1, by omega, by go_num, hb5, HF.out⟩
    case measure => simp [intOf]; omega
  ·obtain rfl : k = l.length := by omega
   have HR0 := HR.out
   rw [List.drop_length] at HR0
   have HF := zrj HR0
   clear HR0 HR
   go_wp2_with fail
   go_ret
   exact ⟨by rw [HF.out]; rfl, hbr⟩
theorem atN_any (p : Option Addr) (c : Nat) (l : List NodeD) (nm : ByteArray) (w : World) (hel : Elts w w.heap.size 3 p (l.map rowN)) (hl : l.length <= 4611686018427387904) :
  Calls prog 138 #[.slice p l.length c, .string nm] w fun e w' => e = .returned (.int .i64 (ixBy NodeD.name l nm 0)) ∧ Below w.heap.size w w' := by
 go_enter func138, ntmps138
 go_wp2_with fail
 go_loopw [9] (fun i wr => ∃ k : Nat, k <= l.length ∧ i = .int .i64 k ∧ Below w.heap.size w wr ∧ Hid (ixBy NodeD.name l nm 0 = ixBy NodeD.name (l.drop k) nm k)) (fun i _ => l.length - (intOf i).toNat)
 case atStart => exact ⟨0, Nat.zero_le _, rfl, zri _ _, (show _ = _ from rfl)⟩
 case round =>
  obtain ⟨k, hk, rfl, hbr, HR⟩ := hrel
  by_cases hlt : k < l.length
  ·have hx : l[k]? = some l[k] := zrd hlt
   have hdr := uw9 l k _ hx
   generalize l[k] = x at *
   obtain ⟨a, ha, hab, _, hat⟩ := (hel.below hbr).at_ (k := k) (r := rowN x) (by rw [zrg, hx]; rfl)
   subst ha
   have hb5 := hbr.alloc hbr.size (.cells (rwN x) 64)
   have HR0 := HR.out
   rw [hdr] at HR0
   rw [vxd] at HR0
   by_cases hq : NodeD.name x = nm
   ·rw [if_pos hq] at HR0
    have hb : ((NodeD.name x).toList == nm.toList) = true := by rw [hq]; simp
    have HF := zrj HR0
    clear HR0 HR hdr hx hq
    go_wp2_with (refine uqb rfl _ _ rfl (a.add (k * 3)) rfl (rlN x) _ hat underlying64 rfl uqm ?_)
    go_ret
    exact ⟨by rw [HF.out]; rfl, hb5⟩
   ·rw [if_neg hq] at HR0
    have hb : ((NodeD.name x).toList == nm.toList) = false := wzf hq
    have HF := zrj HR0
    clear HR0 HR hdr hx hq
    go_wp2_with (refine uqb rfl _ _ rfl (a.add (k * 3)) rfl (rlN x) _ hat underlying64 rfl uqm ?_)
    go_roundw
    case rel => exact ⟨k + 1, by omega, by go_num, hb5, HF.out⟩
    case measure => simp [intOf]; omega
  ·obtain rfl : k = l.length := by omega
   have HR0 := HR.out
   rw [List.drop_length] at HR0
   have HF := zrj HR0
   clear HR0 HR
   go_wp2_with fail
   go_ret
   exact ⟨by rw [HF.out]; rfl, hbr⟩
end Go.Proofs.YtibiankbmhdljabGreatDoor
