/-
  Several texts in one: RfC, RfD.
-/
import Derived.Test.YtibiankbmhdljabGreatDoorPgRefB
set_option linter.all false
set_option maxHeartbeats 16000000
set_option maxRecDepth 100000
namespace Go.Proofs.YtibiankbmhdljabGreatDoor
open Go.Proofs.Tryz
open Go.RowKit
theorem add_0 (a : Addr) : a.add 0 = a := by unfold Addr.add; split <;> simp_all
theorem vv7 (x y : ByteArray) : (!Op.bytesLess y.toList x.toList) = leS x y := by
 unfold leS
 rcases vz4 x.toList y.toList with h | h | h
 ·have h2 : Op.bytesLess y.toList x.toList = false := by
   cases h3 : Op.bytesLess y.toList x.toList
   ·rfl
   ·have := vz5 _ _ _ h h3
    rw [uwc] at this
    cases this
  rw [h, h2]
  rfl
 ·rw [h, uwc]
  simp
 ·have h2 : Op.bytesLess x.toList y.toList = false := by
   cases h3 : Op.bytesLess x.toList y.toList
   ·rfl
   ·have := vz5 _ _ _ h h3
    rw [uwc] at this
    cases this
  have h4 : (x.toList == y.toList) = false := by
   rw [zrf]
   intro e
   rw [e, uwc] at h
   cases h
  rw [h, h2, h4]
  rfl
theorem vvj (p : Option Addr) (c : Nat) (l : List JobD) (w : World) (hel : Elts w w.heap.size 5 p (l.map rowJ)) (hok : ∀ x ∈ l, x.name.size <= 9223372036854775807 ∧ x.tag.size <= 9223372036854775807) (hl : l.length <= 40) :
  Calls prog 135 #[.slice p l.length c] w fun e w' => e = .returned (.int .i64 (rowsE JobD.name jobE none l : Int)) ∧ Below w.heap.size w w' := by
 have HOK := zrj hok
 clear hok
 go_enter func135, ntmps135
 go_wp2_with fail
 go_loopw [8] (fun i wr => ∃ k : Nat, k <= l.length ∧ i = .int .i64 k ∧ Below w.heap.size w wr ∧ Hid (rowsE JobD.name jobE none l = rowsE JobD.name jobE (uzc l k) (l.drop k))) (fun i _ => l.length - (intOf i).toNat)
 case atStart => exact ⟨0, Nat.zero_le _, rfl, zri _ _, (show _ = _ from rfl)⟩
 case round =>
  obtain ⟨k, hk, rfl, hbr, HR⟩ := hrel
  by_cases hlt : k < l.length
  ·have hx : l[k]? = some l[k] := zrd hlt
   have hg := HOK.out l[k] (List.getElem_mem hlt)
   have hdr := uvn l k _ hx
   have hpv := uvt l k _ hx
   generalize l[k] = x at *
   obtain ⟨a, rfl, hab, _, hat⟩ := (hel.below hbr).at_ (k := k) (r := rowJ x) (by rw [zrg, hx]; rfl)
   have hb5 := hbr.alloc hbr.size (.cells (rwJ x) 62)
   have bx := Blk.new wr 62 (rwJ x)
   have hc := fun W => jobR_any x W (by omega) (by omega)
   have hbr' : Below wr.heap.size wr (wr.alloc (.cells (rwJ x) 62)) := (zri _ _).alloc (zra _) _
   have HR0 := HR.out
   rw [hdr] at HR0
   by_cases hE : jobE x = 0
   ·rw [hE] at hc
    have HC := zrj hc
    cases hbo : uxr JobD.name (uzc l k) x
    all_goals
     first
      | rw [uzn _ _ _ _ _ hE hbo, <- hpv] at HR0
      | rw [uzy _ _ _ _ _ hE hbo] at HR0
     have HF := zrj HR0
    all_goals
     obtain rfl | ⟨j, rfl⟩ : k = 0 ∨ ∃ j, k = j + 1 := by
      rcases k with _ | j
      ·exact .inl rfl
      ·exact .inr ⟨j, rfl⟩
    ·clear hc HR0 hE hbo hdr hpv hx HR
     go_wp2_with (refine uqb rfl _ _ rfl (a.add (0 * 5)) rfl (rlJ x) _ hat underlying62 rfl uqp ?_)
     refine (HC.out _).mono ?_
     rintro e w4 ⟨rfl, hb4⟩
     have hb6 := hb5.trans (hb4.mono hb5.size)
     clear hat hb4 hb5 hbr' bx
     go_wp2_with fail
     go_quiet (fail)
     go_wp2_with fail
     go_roundw
     case rel => exact ⟨1, by omega, rfl, uql hb6 _, HF.out⟩
     case measure => simp [intOf]; omega
    ·have hy : l[j]? = some l[j] := zrd (by omega)
     have hle : leS (JobD.name x) (JobD.name l[j]) = false := by
      have : uxr JobD.name (some l[j]) x = false := by rw [<- hbo]; congr 1; exact hy.symm
      exact this
     generalize l[j] = y at *
     obtain ⟨a', ha', _, _, hay⟩ := (hel.below hbr).at_ (k := j) (r := rowJ y) (by rw [zrg, hy]; rfl)
     obtain rfl : a = a' := by injection ha'
     rw [<- vv7] at hle
     have HL := zrj hle
     clear hc HR0 hE hbo hdr hpv hx hy ha' HR hle
     go_wp2_with (refine uqb rfl _ _ rfl (a.add ((j + 1) * 5)) rfl (rlJ x) _ hat underlying62 rfl uqp ?_)
     refine (HC.out _).mono ?_
     rintro e w4 ⟨rfl, hb4⟩
     have bx4 := bx.below hb4 bx.lt
     have hb6 := hb5.trans (hb4.mono hb5.size)
     have hay4 := (hay.below hbr' (by rw [uqk]; exact Nat.lt_of_lt_of_le hab hbr.size)).below hb4 (by rw [uqk]; exact Nat.lt_of_lt_of_le hab (zrc hbr.size hbr'.size))
     have cx : w4.cell? ⟨wr.heap.size, 0, none⟩ = some (.string x.name) := bx4.cell 0
     have cy : w4.cell? (a.add (j * 5)) = some (.string y.name) := by have := hay4 0 _ rfl; rwa [add_0] at this
     have hwj : IntKind.i64.wrap (j : Int) = (j : Int) := IntWalk.i64_in _ (by omega)
     have hj0 : (0 : Int) <= (j : Int) := by omega
     have hj1 : (j : Int) < (l.length : Int) := by omega
     clear hat hay hay4 bx bx4 hb4 hb5 hbr'
     have hl7 := HL.out
     go_wp2_with fail
     go_big_quiet (fail)
     go_wp2_with fail
     refine ⟨⟨j + 1 + 1, by omega, by go_num, uql hb6 _, HF.out⟩, by simp [intOf]; omega⟩
    ·exact absurd hbo (by simp [uzc, uxr])
    ·have hy : l[j]? = some l[j] := zrd (by omega)
     have hle : leS (JobD.name x) (JobD.name l[j]) = true := by
      have : uxr JobD.name (some l[j]) x = true := by rw [<- hbo]; congr 1; exact hy.symm
      exact this
     generalize l[j] = y at *
     obtain ⟨a', ha', _, _, hay⟩ := (hel.below hbr).at_ (k := j) (r := rowJ y) (by rw [zrg, hy]; rfl)
     obtain rfl : a = a' := by injection ha'
     rw [<- vv7] at hle
     have HL := zrj hle
     clear hc HR0 hE hbo hdr hpv hx hy ha' HR hle
     go_wp2_with (refine uqb rfl _ _ rfl (a.add ((j + 1) * 5)) rfl (rlJ x) _ hat underlying62 rfl uqp ?_)
     refine (HC.out _).mono ?_
     rintro e w4 ⟨rfl, hb4⟩
     have bx4 := bx.below hb4 bx.lt
     have hb6 := hb5.trans (hb4.mono hb5.size)
     have hay4 := (hay.below hbr' (by rw [uqk]; exact Nat.lt_of_lt_of_le hab hbr.size)).below hb4 (by rw [uqk]; exact Nat.lt_of_lt_of_le hab (zrc hbr.size hbr'.size))
     have cx : w4.cell? ⟨wr.heap.size, 0, none⟩ = some (.string x.name) := bx4.cell 0
     have cy : w4.cell? (a.add (j * 5)) = some (.string y.name) := by have := hay4 0 _ rfl; rwa [add_0] at this
     have hwj : IntKind.i64.wrap (j : Int) = (j : Int) := IntWalk.i64_in _ (by omega)
     have hj0 : (0 : Int) <= (j : Int) := by omega
     have hj1 : (j : Int) < (l.length : Int) := by omega
     clear hat hay hay4 bx bx4 hb4 hb5 hbr'
     have hl7 := HL.out
     go_wp2_with fail
     go_big_quiet (fail)
     go_wp2_with fail
     go_ret
     exact ⟨by rw [HF.out]; rfl, uql hb6 _⟩
   ·rw [uzx _ _ _ _ _ hE] at HR0
    have hne : ((jobE x : Int) != 0) = true := by rw [bne_iff_ne]; omega
    have HF := zrj HR0
    have HC := zrj hc
    clear hc HR0 hE hdr hpv hx HR
    go_wp2_with (refine uqb rfl _ _ rfl (a.add (k * 5)) rfl (rlJ x) _ hat underlying62 rfl uqp ?_)
    refine (HC.out _).mono ?_
    rintro e w4 ⟨rfl, hb4⟩
    go_wp2_with fail
    go_ret
    exact ⟨by rw [HF.out]; rfl, hb5.trans (hb4.mono hb5.size)⟩
  ·obtain rfl : k = l.length := by omega
   have HR0 := HR.out
   rw [List.drop_length] at HR0
   have HF := zrj HR0
   clear HR0 HR
   go_wp2_with fail
   go_ret
   exact ⟨by rw [HF.out]; rfl, hbr⟩
theorem vki (p : Option Addr) (c : Nat) (l : List NodeD) (w : World) (hel : Elts w w.heap.size 3 p (l.map rowN)) (hok : ∀ x ∈ l, x.name.size <= 9223372036854775807 ∧ x.zone.size <= 9223372036854775807) (hl : l.length <= 40) :
  Calls prog 136 #[.slice p l.length c] w fun e w' => e = .returned (.int .i64 (rowsE NodeD.name nodeE none l : Int)) ∧ Below w.heap.size w w' := by
 have HOK := zrj hok
 clear hok
 go_enter func136, ntmps136
 go_wp2_with fail
 go_loopw [8] (fun i wr => ∃ k : Nat, k <= l.length ∧ i = .int .i64 k ∧ Below w.heap.size w wr ∧ Hid (rowsE NodeD.name nodeE none l = rowsE NodeD.name nodeE (uzc l k) (l.drop k))) (fun i _ => l.length - (intOf i).toNat)
 case atStart => exact ⟨0, Nat.zero_le _, rfl, zri _ _, (show _ = _ from rfl)⟩
 case round =>
  obtain ⟨k, hk, rfl, hbr, HR⟩ := hrel
  by_cases hlt : k < l.length
  ·have hx : l[k]? = some l[k] := zrd hlt
   have hg := HOK.out l[k] (List.getElem_mem hlt)
   have hdr := uvn l k _ hx
   have hpv := uvt l k _ hx
   generalize l[k] = x at *
   obtain ⟨a, rfl, hab, _, hat⟩ := (hel.below hbr).at_ (k := k) (r := rowN x) (by rw [zrg, hx]; rfl)
   have hb5 := hbr.alloc hbr.size (.cells (rwN x) 64)
   have bx := Blk.new wr 64 (rwN x)
   have hc := fun W => wv9 x W (by omega) (by omega)
   have hbr' : Below wr.heap.size wr (wr.alloc (.cells (rwN x) 64)) := (zri _ _).alloc (zra _) _
   have HR0 := HR.out
   rw [hdr] at HR0
   by_cases hE : nodeE x = 0
   ·rw [hE] at hc
    have HC := zrj hc
    cases hbo : uxr NodeD.name (uzc l k) x
    all_goals
     first
      | rw [uzn _ _ _ _ _ hE hbo, <- hpv] at HR0
      | rw [uzy _ _ _ _ _ hE hbo] at HR0
     have HF := zrj HR0
    all_goals
     obtain rfl | ⟨j, rfl⟩ : k = 0 ∨ ∃ j, k = j + 1 := by
      rcases k with _ | j
      ·exact .inl rfl
      ·exact .inr ⟨j, rfl⟩
    ·clear hc HR0 hE hbo hdr hpv hx HR
     go_wp2_with (refine uqb rfl _ _ rfl (a.add (0 * 3)) rfl (rlN x) _ hat underlying64 rfl uqm ?_)
     refine (HC.out _).mono ?_
     rintro e w4 ⟨rfl, hb4⟩
     have hb6 := hb5.trans (hb4.mono hb5.size)
     clear hat hb4 hb5 hbr' bx
     go_wp2_with fail
     go_quiet (fail)
     go_wp2_with fail
     go_roundw
     case rel => exact ⟨1, by omega, rfl, uql hb6 _, HF.out⟩
     case measure => simp [intOf]; omega
    ·have hy : l[j]? = some l[j] := zrd (by omega)
     have hle : leS (NodeD.name x) (NodeD.name l[j]) = false := by
      have : uxr NodeD.name (some l[j]) x = false := by rw [<- hbo]; congr 1; exact hy.symm
      exact this
     generalize l[j] = y at *
     obtain ⟨a', ha', _, _, hay⟩ := (hel.below hbr).at_ (k := j) (r := rowN y) (by rw [zrg, hy]; rfl)
     obtain rfl : a = a' := by injection ha'
     rw [<- vv7] at hle
     have HL := zrj hle
     clear hc HR0 hE hbo hdr hpv hx hy ha' HR hle
     go_wp2_with (refine uqb rfl _ _ rfl (a.add ((j + 1) * 3)) rfl (rlN x) _ hat underlying64 rfl uqm ?_)
     refine (HC.out _).mono ?_
     rintro e w4 ⟨rfl, hb4⟩
     have bx4 := bx.below hb4 bx.lt
     have hb6 := hb5.trans (hb4.mono hb5.size)
     have hay4 := (hay.below hbr' (by rw [uqk]; exact Nat.lt_of_lt_of_le hab hbr.size)).below hb4 (by rw [uqk]; exact Nat.lt_of_lt_of_le hab (zrc hbr.size hbr'.size))
     have cx : w4.cell? ⟨wr.heap.size, 0, none⟩ = some (.string x.name) := bx4.cell 0
     have cy : w4.cell? (a.add (j * 3)) = some (.string y.name) := by have := hay4 0 _ rfl; rwa [add_0] at this
     have hwj : IntKind.i64.wrap (j : Int) = (j : Int) := IntWalk.i64_in _ (by omega)
     have hj0 : (0 : Int) <= (j : Int) := by omega
     have hj1 : (j : Int) < (l.length : Int) := by omega
     clear hat hay hay4 bx bx4 hb4 hb5 hbr'
     have hl7 := HL.out
     go_wp2_with fail
     go_big_quiet (fail)
     go_wp2_with fail
     refine ⟨⟨j + 1 + 1, by omega, by go_num, uql hb6 _, HF.out⟩, by simp [intOf]; omega⟩
    ·exact absurd hbo (by simp [uzc, uxr])
    ·have hy : l[j]? = some l[j] := zrd (by omega)
     have hle : leS (NodeD.name x) (NodeD.name l[j]) = true := by
      have : uxr NodeD.name (some l[j]) x = true := by rw [<- hbo]; congr 1; exact hy.symm
      exact this
     generalize l[j] = y at *
     obtain ⟨a', ha', _, _, hay⟩ := (hel.below hbr).at_ (k := j) (r := rowN y) (by rw [zrg, hy]; rfl)
     obtain rfl : a = a' := by injection ha'
     rw [<- vv7] at hle
     have HL := zrj hle
     clear hc HR0 hE hbo hdr hpv hx hy ha' HR hle
     go_wp2_with (refine uqb rfl _ _ rfl (a.add ((j + 1) * 3)) rfl (rlN x) _ hat underlying64 rfl uqm ?_)
     refine (HC.out _).mono ?_
     rintro e w4 ⟨rfl, hb4⟩
     have bx4 := bx.below hb4 bx.lt
     have hb6 := hb5.trans (hb4.mono hb5.size)
     have hay4 := (hay.below hbr' (by rw [uqk]; exact Nat.lt_of_lt_of_le hab hbr.size)).below hb4 (by rw [uqk]; exact Nat.lt_of_lt_of_le hab (zrc hbr.size hbr'.size))
     have cx : w4.cell? ⟨wr.heap.size, 0, none⟩ = some (.string x.name) := bx4.cell 0
     have cy : w4.cell? (a.add (j * 3)) = some (.string y.name) := by have := hay4 0 _ rfl; rwa [add_0] at this
     have hwj : IntKind.i64.wrap (j : Int) = (j : Int) := IntWalk.i64_in _ (by omega)
     have hj0 : (0 : Int) <= (j : Int) := by omega
     have hj1 : (j : Int) < (l.length : Int) := by omega
     clear hat hay hay4 bx bx4 hb4 hb5 hbr'
     have hl7 := HL.out
     go_wp2_with fail
     go_big_quiet (fail)
     go_wp2_with fail
     go_ret
     exact ⟨by rw [HF.out]; rfl, uql hb6 _⟩
   ·rw [uzx _ _ _ _ _ hE] at HR0
    have hne : ((nodeE x : Int) != 0) = true := by rw [bne_iff_ne]; omega
    have HF := zrj HR0
    have HC := zrj hc
    clear hc HR0 hE hdr hpv hx HR
    go_wp2_with (refine uqb rfl _ _ rfl (a.add (k * 3)) rfl (rlN x) _ hat underlying64 rfl uqm ?_)
    refine (HC.out _).mono ?_
    rintro e w4 ⟨rfl, hb4⟩
    go_wp2_with fail
    go_ret
    exact ⟨by rw [HF.out]; rfl, hb5.trans (hb4.mono hb5.size)⟩
  ·obtain rfl : k = l.length := by omega
   have HR0 := HR.out
   rw [List.drop_length] at HR0
   have HF := zrj HR0
   clear HR0 HR
   go_wp2_with fail
   go_ret
   exact ⟨by rw [HF.out]; rfl, hbr⟩
theorem vxe {α : Type} (key : α -> ByteArray) : ∀ (l : List α) (nm : ByteArray) (i : Nat), (ixBy key l nm i = -1 ∧ l.find? (fun x => decide (key x = nm)) = none) ∨ ∃ k x, ixBy key l nm i = ((i + k : Nat) : Int) ∧ l[k]? = some x ∧ l.find? (fun x => decide (key x = nm)) = some x
 | [], nm, i => .inl ⟨rfl, rfl⟩
 | y :: r, nm, i => by
  by_cases h : key y = nm
  ·exact .inr ⟨0, y, by rw [vxd, if_pos h]; rfl, rfl, by rw [List.find?_cons_of_pos]; simpa using h⟩
  ·rw [vxd, if_neg h, List.find?_cons_of_neg (by simpa using h)]
   rcases vxe key r nm (i + 1) with h1 | ⟨k, x, h1, h2, h3⟩
   ·exact .inl h1
   ·exact .inr ⟨k + 1, x, by rw [h1]; congr 1; omega, h2, h3⟩
theorem xjw (jobs : List JobD) (nm : ByteArray) (x : uqf) (r : List uqf) : uxl jobs nm (x :: r) = (if x.node = nm then uxk jobs x.job else 0) + uxl jobs nm r := rfl
theorem xjv (s : St) (p1 p2 p3 : Option Addr) (c1 c2 c3 : Nat) (w : World) (hm : StM w w.heap.size p1 p2 p3 s) (nm : ByteArray) (hj : s.jobs.length <= 40) (hl : s.leases.length <= 40) (hn : ∀ x ∈ s.jobs, 0 <= x.need ∧ x.need <= 1000000) :
  Calls prog 139 #[.agg (stv s p1 p2 p3 c1 c2 c3), .string nm] w fun e w' => e = .returned (.int .i64 (uxl s.jobs nm s.leases)) ∧ Below w.heap.size w w' := by
 have hb0 : Below w.heap.size w (w.alloc (.cells (stv s p1 p2 p3 c1 c2 c3) 35)) := (zri _ _).alloc (zra _) _
 have b0 := Blk.new w 35 (stv s p1 p2 p3 c1 c2 c3)
 have HM := zrj hm
 have HN := zrj hn
 clear hm hn
 go_enter func139, ntmps139
 go_wp2_with fail
 generalize w.alloc _ = W0 at *
 have k3 := b0.cell 3
 go_wp2_with fail
 clear k3
 go_loopw [5, 12] (fun m i wr => ∃ (k : Nat) (M : Int), k <= s.leases.length ∧ i = .int .i64 k ∧ m = .int .i64 M ∧ 0 <= M ∧ M <= 1000000 * k ∧ Hid (uxl s.jobs nm s.leases = M + uxl s.jobs nm (s.leases.drop k)) ∧ Blk wr w.heap.size 35 (stv s p1 p2 p3 c1 c2 c3) ∧ Below w.heap.size w wr) (fun _ i _ => s.leases.length - (intOf i).toNat)
 case atStart => exact ⟨0, 0, Nat.zero_le _, rfl, rfl, by omega, by omega, (show _ = _ from by rw [List.drop_zero]; omega), b0, hb0⟩
 case round =>
  obtain ⟨k, M, hk, rfl, rfl, hM0, hM1, HU, bs, hbr⟩ := hrel
  clear b0 hb0
  by_cases hlt : k < s.leases.length
  ·have hx : s.leases[k]? = some s.leases[k] := zrd hlt
   have HU0 := HU.out
   rw [uvn s.leases k _ hx, xjw] at HU0
   generalize s.leases[k] = x at *
   obtain ⟨a3, rfl, hab3, _, hat3⟩ := (HM.out.l.below hbr).at_ (k := k) (r := rowL x) (by rw [zrg, hx]; rfl)
   have hbx : Below wr.heap.size wr (wr.alloc (.cells (rwL x) 66)) := (zri _ _).alloc (zra _) _
   have bx := Blk.new wr 66 (rwL x)
   have hbr1 := hbr.trans (hbx.mono hbr.size)
   have bs1 := bs.below hbx bs.lt
   have x0 := bx.cell 0
   have k1 := bs1.cell 1
   have HJ := zrj (xqk p1 c1 s.jobs x.job _ ((HM.out.j.below hbr1).more hbr1.size) (by omega))
   have hfi := vxe JobD.name s.jobs x.job 0
   generalize ixBy JobD.name s.jobs x.job 0 = z at *
   have HX := zrj HU0
   have HFI := zrj hfi
   clear hx HU HU0 hbr hbx bs hab3 hfi
   go_upto_region 5 with (first | (refine uqb rfl _ _ rfl (a3.add (k * 3)) rfl (rlL x) _ hat3 underlying66 rfl uqo ?_) | (refine uqd rfl _ _ _ rfl rfl 66 _ (rwL x) rfl uqo rfl (by simp [Value.oneCell']) ?_))
   generalize wr.alloc _ = W1 at *
   generalize wr.heap.size = gl at *
   clear hat3
   go_wp2_with fail
   refine HJ.out.mono ?_
   rintro e w2 ⟨rfl, hb2⟩
   have bx2 := bx.below hb2 bx.lt
   have bs2 := bs1.below hb2 bs1.lt
   have hbr2 := hbr1.trans (hb2.mono hbr1.size)
   have x1 := bx2.cell 1
   have k2 := bs2.cell 1
   clear bx bs1 hbr1 x0 k1 HJ hb2
   by_cases hq : x.node = nm
   ·have hb : (x.node.toList == nm.toList) = true := by rw [hq]; simp
    have HX1 := HX.out
    rw [if_pos hq] at HX1
    rcases HFI.out with ⟨rfl, hf⟩ | ⟨j, y, hz, hy, hf⟩
    ·have hnd : uxk s.jobs x.job = 0 := by unfold uxk jobAt; rw [hf]; rfl
     rw [hnd] at HX1
     have HY := zrj HX1
     clear hnd HX1 HX hq hf HFI
     go_wp2_with fail
     go_roundw
     case rel => exact ⟨k + 1, M, by omega, by go_num, rfl, hM0, by omega, (show _ = _ from by rw [HY.out]; omega), bs2, hbr2⟩
     case measure => simp [intOf]; omega
    ·rw [Nat.zero_add] at hz
     subst hz
     have hnd : uxk s.jobs x.job = y.need := by unfold uxk jobAt; rw [hf]; rfl
     have hyb := HN.out y (List.mem_of_getElem? hy)
     have hjl : j < s.jobs.length := (List.getElem?_eq_some_iff.1 hy).1
     rw [hnd] at HX1
     have HY := zrj HX1
     obtain ⟨a1, rfl, hab1, _, hat1⟩ := (HM.out.j.below hbr2).at_ (k := j) (r := rowJ y) (by rw [zrg, hy]; rfl)
     have c3 : w2.cell? { block := (a1.add (j * 5)).block, off := (a1.add (j * 5)).off + 2 } = some (.int .i64 y.need) := hat1 2 _ rfl
     have hw : IntKind.i64.wrap (M + y.need) = M + y.need := IntWalk.i64_in _ (by omega)
     have hjl2 : (j : Int) < (s.jobs.length : Int) := by omega
     have hj0 : (0 : Int) <= (j : Int) := by omega
     clear hnd HX1 HX hq hf HFI hy hat1 hab1
     go_wp2_with fail
     go_roundw
     case rel => exact ⟨k + 1, M + y.need, by omega, by go_num, rfl, by omega, by omega, (show _ = _ from by rw [HY.out]; omega), bs2, hbr2⟩
     case measure => simp [intOf]; omega
   ·have hb : (x.node.toList == nm.toList) = false := wzf hq
    have HX1 := HX.out
    rw [if_neg hq] at HX1
    have HY := zrj HX1
    clear HX1 HX hq HFI
    go_wp2_with fail
    go_roundw
    case rel => exact ⟨k + 1, M, by omega, by go_num, rfl, hM0, by omega, (show _ = _ from by rw [HY.out]; omega), bs2, hbr2⟩
    case measure => simp [intOf]; omega
  ·obtain rfl : k = s.leases.length := by omega
   have HU0 := HU.out
   rw [List.drop_length] at HU0
   have HY := zrj (show uxl s.jobs nm s.leases = M from by rw [HU0]; show M + 0 = M; omega)
   clear HU HU0
   go_wp2_with fail
   go_ret
   exact ⟨by rw [HY.out]; rfl, hbr⟩
theorem wzi (s : St) (p1 p2 p3 : Option Addr) (c1 c2 c3 : Nat) (w : World) (hm : StM w w.heap.size p1 p2 p3 s) (hz : StSz s) :
  Calls prog 84 #[.agg (stv s p1 p2 p3 c1 c2 c3)] w fun e w' => ∃ z : Int, e = .returned (.int .i64 z) ∧ (z = 0 -> uqq s = 0) ∧ Below w.heap.size w w' := by
 have hb0 : Below w.heap.size w (w.alloc (.cells (stv s p1 p2 p3 c1 c2 c3) 35)) := (zri _ _).alloc (zra _) _
 have b0 := Blk.new w 35 (stv s p1 p2 p3 c1 c2 c3)
 have hlj := hz.lj
 have hln := hz.ln
 have hll := hz.ll
 have HM := zrj hm
 have HZ := zrj hz
 have hwi : ∀ n a b : Int, uq8 n a b = !(decide (n < a) || decide (n > b)) := fun n a b => by unfold uq8; rw [Bool.eq_iff_iff]; simp
 obtain ⟨o1, ho1, HO1⟩ : ∃ bo, (decide (s.rev < 0) || decide (s.rev > 1099511627776)) = bo ∧ Hid (∀ W : World, Calls prog 85 #[.int .i64 s.rev, .int .i64 0, .int .i64 1099511627776] W fun e w' => e = .returned (.bool bo) ∧ Below W.heap.size W w') := ⟨_, rfl, fun W => uky s.rev 0 1099511627776 W⟩
 have hr1 := hwi s.rev 0 1099511627776
 rw [ho1] at hr1
 have HWI := zrj hwi
 have HR1 := zrj hr1
 clear hm hz hwi ho1 hr1
 go_enter func84, ntmps84
 go_wp2_with fail
 generalize w.alloc _ = W0 at *
 have k0 := b0.cell 0
 go_wp2_with fail
 refine (HO1.out _).mono ?_
 rintro e w1 ⟨rfl, hb1⟩
 have b1 := b0.below hb1 b0.lt
 have hB1 := hb0.trans (hb1.mono hb0.size)
 clear b0 hb0 k0 hb1 HO1
 cases o1
 rotate_left
 ·go_wp2_with fail
  go_ret
  exact ⟨1, rfl, by omega, hB1⟩
 have k1 := b1.cell 1
 have k2 := b1.cell 2
 have k3 := b1.cell 3
 by_cases h1 : 40 < s.jobs.length
 ·go_wp2_with fail
  go_ret
  exact ⟨2, rfl, by omega, hB1⟩
 by_cases h2 : 40 < s.leases.length
 ·go_wp2_with fail
  go_ret
  exact ⟨2, rfl, by omega, hB1⟩
 by_cases h3 : 20 < s.nodes.length
 ·go_wp2_with fail
  go_ret
  exact ⟨2, rfl, by omega, hB1⟩
 have HJ := zrj (vvj p1 c1 s.jobs w1 ((HM.out.j.below hB1).more hB1.size) HZ.out.j (by omega))
 have hne1 : ∀ n : Nat, n ≠ 0 -> ((n : Int) != 0) = true := fun n h => by rw [bne_iff_ne]; omega
 have HNE := zrj hne1
 clear hne1
 obtain ⟨rj, hrj⟩ : ∃ r, rowsE JobD.name jobE none s.jobs = r := ⟨_, rfl⟩
 rw [hrj] at HJ
 obtain ⟨rn, hrn⟩ : ∃ r, rowsE NodeD.name nodeE none s.nodes = r := ⟨_, rfl⟩
 have HRJ := zrj hrj
 have HRN := zrj hrn
 clear hrj hrn
 go_wp2_with fail
 refine HJ.out.mono ?_
 rintro e w2 ⟨rfl, hb2⟩
 have b2 := b1.below hb2 b1.lt
 have hB2 := hB1.trans (hb2.mono hB1.size)
 clear b1 hB1 hb2 HJ k1 k2 k3
 by_cases h4 : rj = 0
 rotate_left
 ·have hn := HNE.out rj h4
  go_wp2_with fail
  go_ret
  exact ⟨_, rfl, by omega, hB2⟩
 subst h4
 have k2 := b2.cell 2
 have HN := vki p2 c2 s.nodes w2 ((HM.out.n.below hB2).more hB2.size) HZ.out.n (by omega)
 rw [HRN.out] at HN
 have HNH := zrj HN
 clear HN
 go_wp2_with fail
 refine HNH.out.mono ?_
 rintro e w3 ⟨rfl, hb3⟩
 have b3 := b2.below hb3 b2.lt
 have hB3 := hB2.trans (hb3.mono hB2.size)
 clear b2 hB2 hb3 HNH k2
 by_cases h5 : rn = 0
 rotate_left
 ·have hn := HNE.out rn h5
  go_wp2_with fail
  go_ret
  exact ⟨_, rfl, by omega, hB3⟩
 subst h5
 have k3 := b3.cell 3
 go_wp2_with fail
 clear k3
 go_loopw [43] (fun i wr => ∃ k : Nat, k <= s.leases.length ∧ i = .int .i64 k ∧ Hid (rowsE uqf.job (ux5 s.jobs s.nodes) none s.leases = rowsE uqf.job (ux5 s.jobs s.nodes) (uzc s.leases k) (s.leases.drop k)) ∧ Blk wr w.heap.size 35 (stv s p1 p2 p3 c1 c2 c3) ∧ Below w.heap.size w wr) (fun i _ => s.leases.length - (intOf i).toNat)
 case atStart => exact ⟨0, Nat.zero_le _, rfl, (show _ = _ from rfl), b3, hB3⟩
 case round =>
  obtain ⟨k, hk, rfl, HL, bs, hbr⟩ := hrel
  clear b3 hB3
  by_cases hlt : k < s.leases.length
  ·have hx : s.leases[k]? = some s.leases[k] := zrd hlt
   have hL0 := HL.out
   have hpv := uvt s.leases k _ hx
   rw [uvn s.leases k _ hx] at hL0
   generalize s.leases[k] = x at *
   obtain ⟨a3, rfl, hab3, _, hat3⟩ := (HM.out.l.below hbr).at_ (k := k) (r := rowL x) (by rw [zrg, hx]; rfl)
   have hbx : Below wr.heap.size wr (wr.alloc (.cells (rwL x) 66)) := (zri _ _).alloc (zra _) _
   have bx := Blk.new wr 66 (rwL x)
   have hbr1 := hbr.trans (hbx.mono hbr.size)
   have bs1 := bs.below hbx bs.lt
   have x0 := bx.cell 0
   have k1 := bs1.cell 1
   have HA := zrj (xqk p1 c1 s.jobs x.job _ ((HM.out.j.below hbr1).more hbr1.size) (by omega))
   have hfj := vxe JobD.name s.jobs x.job 0
   have hfn := vxe NodeD.name s.nodes x.node 0
   generalize hzj : ixBy JobD.name s.jobs x.job 0 = zj at *
   have HX := zrj hL0
   have HPV := zrj hpv
   have HXX := zrj hx
   clear hx hL0 hpv HL hbr hbx bs hab3 hzj
   go_upto_region 14 with (first | (refine uqb rfl _ _ rfl (a3.add (k * 3)) rfl (rlL x) _ hat3 underlying66 rfl uqo ?_) | (refine uqd rfl _ _ _ rfl rfl 66 _ (rwL x) rfl uqo rfl (by simp [Value.oneCell']) ?_))
   generalize wr.alloc _ = W1 at *
   generalize wr.heap.size = gl at *
   clear hat3
   go_wp2_with fail
   refine HA.out.mono ?_
   rintro e w4 ⟨rfl, hb4⟩
   have bx4 := bx.below hb4 bx.lt
   have bs4 := bs1.below hb4 bs1.lt
   have hbr4 := hbr1.trans (hb4.mono hbr1.size)
   have x1 := bx4.cell 1
   have k2 := bs4.cell 2
   clear bx bs1 hbr1 x0 k1 HA hb4
   rcases hfj with ⟨rfl, _⟩ | ⟨ij, yj, rfl, _, hfj⟩
   ·clear hfn HX HPV HXX
    go_wp2_with fail
    go_ret
    exact ⟨6, rfl, by omega, hbr4⟩
   have hij : ¬ (((0 + ij : Nat) : Int) < 0) := by omega
   have HB := zrj (atN_any p2 c2 s.nodes x.node _ ((HM.out.n.below hbr4).more hbr4.size) (by omega))
   generalize hzn : ixBy NodeD.name s.nodes x.node 0 = zn at *
   clear hzn
   go_wp2_with fail
   refine HB.out.mono ?_
   rintro e w5 ⟨rfl, hb5⟩
   have bx5 := bx4.below hb5 bx4.lt
   have bs5 := bs4.below hb5 bs4.lt
   have hbr5 := hbr4.trans (hb5.mono hbr4.size)
   have x2 := bx5.cell 2
   clear bx4 bs4 hbr4 x1 k2 HB hb5 hij
   rcases hfn with ⟨rfl, _⟩ | ⟨jn, yn, rfl, _, hfn⟩
   ·clear HX HPV HXX
    go_wp2_with fail
    go_ret
    exact ⟨6, rfl, by omega, hbr5⟩
   have hij : ¬ (((0 + jn : Nat) : Int) < 0) := by omega
   obtain ⟨o2, ho2, HO2⟩ : ∃ bo, (decide (x.till < 0) || decide (x.till > 1099511627776)) = bo ∧ Hid (∀ W : World, Calls prog 85 #[.int .i64 x.till, .int .i64 0, .int .i64 1099511627776] W fun e w' => e = .returned (.bool bo) ∧ Below W.heap.size W w') := ⟨_, rfl, fun W => uky x.till 0 1099511627776 W⟩
   have hr2 := HWI.out x.till 0 1099511627776
   rw [ho2] at hr2
   have HR2 := zrj hr2
   have HFJ := zrj hfj
   have HFN := zrj hfn
   clear ho2 hr2 hfj hfn
   go_wp2_with fail
   refine (HO2.out _).mono ?_
   rintro e w6 ⟨rfl, hb6⟩
   have bx6 := bx5.below hb6 bx5.lt
   have bs6 := bs5.below hb6 bs5.lt
   have hbr6 := hbr5.trans (hb6.mono hbr5.size)
   clear bx5 bs5 hbr5 x2 HO2 hb6 hij
   cases o2
   rotate_left
   ·go_wp2_with fail
    go_ret
    exact ⟨1, rfl, by omega, hbr6⟩
   have hle : ux5 s.jobs s.nodes x = 0 := by
    unfold ux5 jobAt uxv
    rw [HFJ.out, HFN.out, HR2.out]
    rfl
   have cx := bx6.cell 0
   have k3 := bs6.cell 3
   obtain rfl | ⟨j, rfl⟩ : k = 0 ∨ ∃ j, k = j + 1 := by
    rcases k with _ | j
    ·exact .inl rfl
    ·exact .inr ⟨j, rfl⟩
   ·have h9 := HX.out
    rw [uzn _ _ _ _ _ hle rfl, <- HPV.out] at h9
    have H9 := zrj h9
    clear h9 hle HX HPV HXX
    go_wp2_with fail
    go_big_quiet (fail)
    go_wp2_with fail
    go_roundw
    case rel => exact ⟨1, by omega, rfl, H9, bs6.drew, uql hbr6 _⟩
    case measure => simp [intOf]; omega
   ·have hy : s.leases[j]? = some s.leases[j] := zrd (by omega)
    have hpy : uzc s.leases (j + 1) = some s.leases[j] := hy
    generalize s.leases[j] = y at *
    obtain ⟨a1, ha1, hab1, _, hat1⟩ := (HM.out.l.below hbr6).at_ (k := j) (r := rowL y) (by rw [zrg, hy]; rfl)
    obtain rfl : a3 = a1 := by injection ha1
    clear ha1
    have cy : w6.cell? (a3.add (j * 3)) = some (.string y.job) := by have := hat1 0 _ rfl; rwa [add_0] at this
    have hwj : IntKind.i64.wrap (j : Int) = (j : Int) := IntWalk.i64_in _ (by omega)
    have hj0 : (0 : Int) <= (j : Int) := by omega
    have hj1 : (j : Int) < (s.leases.length : Int) := by omega
    have h9 := HX.out
    rw [hpy] at h9
    cases hbo : uxr uqf.job (some y) x
    ·rw [uzn _ _ _ _ _ hle hbo, <- HPV.out] at h9
     have hl7 : (!Op.bytesLess y.job.toList x.job.toList) = false := by rw [vv7]; exact hbo
     have H9 := zrj h9
     clear h9 hle HX HPV HXX hbo hy hpy hat1 hab1
     go_wp2_with fail
     go_big_quiet (fail)
     go_wp2_with fail
     go_roundw
     case rel => exact ⟨j + 1 + 1, by omega, by go_num, H9, bs6.drew, uql hbr6 _⟩
     case measure => simp [intOf]; omega
    ·have hl7 : (!Op.bytesLess y.job.toList x.job.toList) = true := by rw [vv7]; exact hbo
     clear h9 hle HX HPV HXX hbo hy hpy hat1 hab1
     go_wp2_with fail
     go_big_quiet (fail)
     go_wp2_with fail
     go_ret
     exact ⟨8, rfl, by omega, uql hbr6 _⟩
  ·obtain rfl : k = s.leases.length := by omega
   have hL0 := HL.out
   rw [List.drop_length] at hL0
   have HL0 := zrj (show rowsE uqf.job (ux5 s.jobs s.nodes) none s.leases = 0 from hL0)
   clear hL0 HL
   have k2 := bs.cell 2
   have HND := zrj (show ∀ x ∈ s.jobs, 0 <= x.need ∧ x.need <= 1000000 from fun x hx => wxe ((uzf.1 HRJ.out).1 x hx))
   go_wp2_with fail
   clear k2
   obtain ⟨wo, rfl⟩ : ∃ wo : World, wo = wr := ⟨_, rfl⟩
   go_loopw [83] (fun i wr => ∃ k : Nat, k <= s.nodes.length ∧ i = .int .i64 k ∧ Hid (∀ n ∈ s.nodes.take k, uxl s.jobs n.name s.leases <= n.room) ∧ Blk wr w.heap.size 35 (stv s p1 p2 p3 c1 c2 c3) ∧ Below w.heap.size w wr) (fun i _ => s.nodes.length - (intOf i).toNat)
   case atStart => exact ⟨0, Nat.zero_le _, rfl, (show ∀ n ∈ s.nodes.take 0, _ from fun n h => by simp at h), bs, hbr⟩
   case round =>
    obtain ⟨k, hk2, rfl, HU, bt, hbt⟩ := hrel
    clear bs hbr
    by_cases hlt2 : k < s.nodes.length
    ·have hx : s.nodes[k]? = some s.nodes[k] := zrd hlt2
     have htk : s.nodes.take (k + 1) = s.nodes.take k ++ [s.nodes[k]] := by rw [List.take_add_one, hx]; rfl
     generalize s.nodes[k] = x at *
     obtain ⟨a3, rfl, hab3, _, hat3⟩ := (HM.out.n.below hbt).at_ (k := k) (r := rowN x) (by rw [zrg, hx]; rfl)
     have hbx : Below wr.heap.size wr (wr.alloc (.cells (rwN x) 64)) := (zri _ _).alloc (zra _) _
     have bx := Blk.new wr 64 (rwN x)
     have hbr1 := hbt.trans (hbx.mono hbt.size)
     have bs1 := bt.below hbx bt.lt
     have HUS := zrj (fun (W : World) (hW : Below (wr.alloc (.cells (rwN x) 64)).heap.size (wr.alloc (.cells (rwN x) 64)) W) => xjv s _ _ _ c1 c2 c3 W ((HM.out.below (hbr1.trans (hW.mono hbr1.size))).more (zrc hbr1.size hW.size)) x.name (by omega) (by omega) HND.out)
     have HTK := zrj htk
     have x0 := bx.cell 0
     clear htk hx hbt hbx bt hab3
     go_upto_region 24 with (first | (refine uqb rfl _ _ rfl (a3.add (k * 3)) rfl (rlN x) _ hat3 underlying64 rfl uqm ?_) | (refine uqd rfl _ _ _ rfl rfl 64 _ (rwN x) rfl uqm rfl (by simp [Value.oneCell']) ?_))
     generalize wr.alloc _ = W1 at *
     generalize wr.heap.size = gl at *
     clear hat3
     obtain ⟨us, hus⟩ : ∃ u, uxl s.jobs x.name s.leases = u := ⟨_, rfl⟩
     simp only [hus] at HUS
     have HUU := zrj hus
     clear hus
     refine uxf (by kernel_rfl) (by kernel_rfl) ?_
     repeat (first
      | (refine uqs (by first | rfl | kernel_rfl) _ _ rfl ⟨w.heap.size, 0, none⟩ rfl [Value.int .i64 s.rev, Value.slice p1 s.jobs.length c1, Value.slice (some a3) s.nodes.length c2, Value.slice p3 s.leases.length c3] _ (fun w5 hw5 => At.blk (bs1.below hw5 bs1.lt)) underlying35 rfl uqg ?_; simp only [Act.put, ma, mb, mc])
      | (apply uxi; (focus (first | rfl | kernel_rfl)); (focus (intro w5 hw5; have q11 := (bx.below hw5 bx.lt).cell; have hv5 : Below W1.heap.size W1 w5 := hw5; unfold Oper.quietAt; go_simp; first | rfl | exact ⟨rfl, rfl⟩ | (with_reducible refine (HUS.out w5 hv5).mono ?_; rintro e w8 ⟨rfl, hb8⟩; exact ⟨rfl, Abv.step hw5 hb8⟩))); simp only [Act.put, ma, mb, mc]))
     refine wpQuiet_nil ?_
     intro w5 hw5
     have hb5 : Below W1.heap.size W1 w5 := hw5
     have bx5 := bx.below hb5 bx.lt
     have bs5 := bs1.below hb5 bs1.lt
     have hbr5 := hbr1.trans (hb5.mono hbr1.size)
     have x1 := bx5.cell 1
     clear bx bs1 hbr1 x0 HUS hb5
     by_cases hr : x.room < us
     ·go_wp2_with fail
      go_ret
      exact ⟨9, rfl, by omega, hbr5⟩
     ·go_wp2_with fail
      go_roundw
      case rel =>
       refine ⟨k + 1, by omega, by go_num, (show ∀ n ∈ s.nodes.take (k + 1), _ from fun n hn => ?_), bs5, hbr5⟩
       rw [HTK.out] at hn
       rcases List.mem_append.1 hn with hn | hn
       ·exact HU.out n hn
       ·rw [List.mem_singleton.1 hn, HUU.out]; omega
      case measure => simp [intOf]; omega
    ·obtain rfl : k = s.nodes.length := by omega
     have hro := HU.out
     rw [List.take_length] at hro
     have HRO := zrj hro
     clear hro HU
     go_wp2_with fail
     go_ret
     refine ⟨0, rfl, fun _ => ?_, hbt⟩
     unfold uqq
     have hr : uyl s = true := by
      unfold uyl
      rw [List.all_eq_true]
      exact fun n hn => decide_eq_true (HRO.out n hn)
     rw [HR1.out, if_neg (by decide), if_neg (by omega), if_neg (by rw [HRJ.out]; simp), if_neg (by rw [HRN.out]; simp), if_neg (by rw [HL0.out]; simp), hr]
     rfl
end Go.Proofs.YtibiankbmhdljabGreatDoor
