/-
  The contract of state.Rows at leases, taken into the tables.
-/
import Derived.Test.YtoepchgoacdodaaDoorLeaseW
set_option linter.unusedVariables false
set_option linter.unusedSimpArgs false
namespace Go.Proofs.YtoepchgoacdodaaDoor
open Go.RowKit
theorem At.gr {w w' : World} {b : Nat} {a : Addr} {cs : List Value} (h : At w a cs) (hg : w.grownBy w' (some b)) (ha : a.block < w.heap.size) (hb : a.block ≠ b) : At w' a cs :=
  fun j v hv => (World.cell?_of_block (by rw [block_of_add]; exact hg.block a.block ha (by intro h0; injection h0 with h0; exact hb h0))).trans (h j v hv)
theorem Elts.gr {w w' : World} {B b size : Nat} {p : Option Addr} {rows : List (List Value)} (h : Elts w B size p rows) (hg : w.grownBy w' (some b)) (hB : B ≤ w.heap.size) (hb : B ≤ b) : Elts w' B size p rows :=
  ⟨h.1, fun hn => by
    obtain ⟨a, e, hab, hc⟩ := h.2 hn
    exact ⟨a, e, hab, fun k r hr => (hc k r hr).gr hg (by rw [block_of_add]; omega) (by rw [block_of_add]; omega)⟩⟩
theorem Blk.gr {w w' : World} {g b : Nat} {t : TypeId} {cs : Array Value} (h : Blk w g t cs) (hg : w.grownBy w' (some b)) (hne : g ≠ b) : Blk w' g t cs := (hg.block g h.lt (by intro h0; injection h0 with h0; exact hne h0)).trans h
theorem usedBy_append (jobs : List JobD) (nm : ByteArray) (a b : List LeaseD) : usedBy jobs nm (a ++ b) = usedBy jobs nm a + usedBy jobs nm b := by
  induction a with
  | nil => simp [usedBy]
  | cons x r ih => simp only [List.cons_append, usedBy, ih]; omega
theorem usedBy_take (jobs : List JobD) (l : List LeaseD) (k : Nat) (x : LeaseD) (h : l[k]? = some x) : addAt (fun nm => usedBy jobs nm (l.take k)) x.node (needOf jobs x.job) = fun nm => usedBy jobs nm (l.take (k + 1)) := by
  funext nm
  rw [List.take_add_one, h, Option.toList_some, usedBy_append]
  unfold addAt
  simp only [usedBy]
  by_cases h1 : x.node = nm
  · rw [if_pos h1, if_pos h1, h1]; omega
  · rw [if_neg h1, if_neg h1]; omega
theorem usedBy_bd (jobs : List JobD) (hneed : ∀ nm, 0 ≤ needOf jobs nm ∧ needOf jobs nm ≤ 1000000) (nm : ByteArray) (l : List LeaseD) : 0 ≤ usedBy jobs nm l ∧ usedBy jobs nm l ≤ 1000000 * (l.length : Int) := by
  induction l with
  | nil => simp [usedBy]
  | cons x r ih =>
    have := hneed x.job
    simp only [usedBy, List.length_cons]
    split <;> omega
theorem leaseE_fit {jobs : List JobD} {nodes : List NodeD} {l : LeaseD} (h : leaseE jobs nodes l = 0) : fitB jobs nodes l = true := by
  unfold leaseE at h
  unfold fitB
  split at h
  · assumption
  · cases h
def RowsLPost (w : World) (gt bj bn bu : Nat) (jobs : List JobD) (nodes : List NodeD) (l : List LeaseD) (e : Ending) (w' : World) : Prop :=
  e = .returned (.int .i64 (rowsE LeaseD.job (leaseE jobs nodes) none l : Int)) ∧ w.grownBy w' (some bu) ∧ (rowsE LeaseD.job (leaseE jobs nodes) none l = 0 → TabIs w' gt bj bn bu jobs nodes (fun nm => usedBy jobs nm l))
set_option maxHeartbeats 4000000 in
set_option maxRecDepth 100000 in
theorem rowsL_any (p : Option Addr) (c : Nat) (l : List LeaseD) (gt bj bn bu B : Nat) (jobs : List JobD) (nodes : List NodeD) (w : World) (hT : TabIs w gt bj bn bu jobs nodes (fun _ => 0)) (hne : gt ≠ bu ∧ bj ≠ bu ∧ bn ≠ bu)
    (hneed : ∀ nm, 0 ≤ needOf jobs nm ∧ needOf jobs nm ≤ 1000000) (hl : l.length ≤ 40) (hel : Elts w B 3 p (l.map rowL)) (hB : B ≤ w.heap.size) (hBu : B ≤ bu) :
    Calls Tryd.prog 26 #[.slice p l.length c, .func (.func 27) #[] #[], .func (.func 28) #[.pointer (some ⟨gt, 0, none⟩)] #[]] w fun e w' => RowsLPost w gt bj bn bu jobs nodes l e w' := by
  have hbu : bu < w.heap.size := by obtain ⟨m, hm, _⟩ := hT.mu; exact hm.lt
  have HT0 := Lib.hid hT
  have HN := Lib.hid hneed
  clear hT hneed
  go_enter Tryd.func26, Tryd.ntmps26
  go_wp2_with fail
  go_loopw [12] (fun i wr => ∃ k : Nat, k ≤ l.length ∧ i = .int .i64 k ∧ w.grownBy wr (some bu) ∧ Hid (TabIs wr gt bj bn bu jobs nodes (fun nm => usedBy jobs nm (l.take k))) ∧ Hid (rowsE LeaseD.job (leaseE jobs nodes) none l = rowsE LeaseD.job (leaseE jobs nodes) (prevOf l k) (l.drop k))) (fun i _ => l.length - (intOf i).toNat)
  case atStart => exact ⟨0, Nat.zero_le _, rfl, World.grownBy.refl w _, (show TabIs w gt bj bn bu jobs nodes _ from HT0.out), (show _ = _ from rfl)⟩
  case round =>
    obtain ⟨k, hk, rfl, hgr, HT, HR⟩ := hrel
    by_cases hlt : k < l.length
    · have hx : l[k]? = some l[k] := List.getElem?_eq_getElem hlt
      have hdr := drop_at l k _ hx
      have hpv := prevOf_at l k _ hx
      have hut := usedBy_take jobs l k _ hx
      generalize l[k] = x at *
      have helr := hel.gr hgr hB hBu
      obtain ⟨a, rfl, hab, _, hat⟩ := helr.at_ (k := k) (r := rowL x) (by rw [List.getElem?_map, hx]; rfl)
      have hwr := hgr.size
      have hbr' : Below wr.heap.size wr (wr.alloc (.cells #[Value.string x.job, Value.string x.node, Value.int .i64 x.till] 52)) := (Below.refl _ _).alloc (Nat.le_refl _) _
      have hg5 : w.grownBy (wr.alloc (.cells #[Value.string x.job, Value.string x.node, Value.int .i64 x.till] 52)) (some bu) := grown_trans hgr (grown_below hbr' _)
      have bx := Blk.new wr 52 #[Value.string x.job, Value.string x.node, Value.int .i64 x.till]
      have hub := usedBy_bd jobs HN.out x.node (l.take k)
      have hnb := HN.out x.job
      rw [List.length_take, Nat.min_eq_left (by omega)] at hub
      have hc := lease_any x gt bj bn bu jobs nodes _ _ (HT.out.below hbr') hne (by show _ ≤ usedBy jobs x.node (l.take k) ∧ usedBy jobs x.node (l.take k) ≤ _; omega) (by omega)
      have HR0 := HR.out
      rw [hdr] at HR0
      have hbw : bu < wr.heap.size := by omega
      unfold LeasePost at hc
      rw [hut] at hc
      clear hub hnb
      by_cases hE : leaseE jobs nodes x = 0
      · have hfit := leaseE_fit hE
        rw [hE, hfit] at hc
        have HC := Lib.hid hc
        cases hbo : badOrd LeaseD.job (prevOf l k) x
        all_goals
          first
            | rw [rowsE_cons_ok _ _ _ _ _ hE hbo, ← hpv] at HR0
            | rw [rowsE_cons_ord _ _ _ _ _ hE hbo] at HR0
          have HF := Lib.hid HR0
        all_goals
          obtain rfl | ⟨j, rfl⟩ : k = 0 ∨ ∃ j, k = j + 1 := by
            rcases k with _ | j
            · exact .inl rfl
            · exact .inr ⟨j, rfl⟩
        · clear hc HR0 hE hbo hdr hpv hx HR hut hfit
          go_wp2_with (refine wpList_load_at rfl _ _ rfl (a.add (0 * 3)) rfl [Value.string x.job, Value.string x.node, Value.int .i64 x.till] _ hat Tryd.underlying52 rfl lease_size ?_)
          refine HC.out.mono ?_
          rintro e w4 ⟨rfl, hg4, ht4⟩
          have HT4 := Lib.hid (ht4 trivial)
          have bx4 := bx.gr hg4 (by omega)
          have hg6 := grown_trans hg5 hg4
          clear hat ht4
          go_wp2_with fail
          go_quiet (fail)
          go_wp2_with fail
          go_roundw
          case rel => exact ⟨1, by omega, rfl, ⟨hg6.os, hg6.tape, hg6.output, hg6.size, hg6.block⟩, (show TabIs _ gt bj bn bu jobs nodes _ from HT4.out.below ((below_drewN (Below.refl _ _) _))), HF.out⟩
          case measure => simp [intOf]; omega
        · -- in order
          have hy : l[j]? = some l[j] := List.getElem?_eq_getElem (by omega)
          have hle : leS (LeaseD.job x) (LeaseD.job l[j]) = false := by
            have : badOrd LeaseD.job (some l[j]) x = false := by rw [← hbo]; congr 1; exact hy.symm
            exact this
          generalize l[j] = y at *
          obtain ⟨a', ha', _, _, hay⟩ := helr.at_ (k := j) (r := rowL y) (by rw [List.getElem?_map, hy]; rfl)
          obtain rfl : a = a' := by injection ha'
          unfold leS at hle
          have HL := Lib.hid hle
          clear hc HR0 hE hbo hdr hpv hx hy ha' HR hle hut hfit
          go_wp2_with (refine wpList_load_at rfl _ _ rfl (a.add ((j + 1) * 3)) rfl [Value.string x.job, Value.string x.node, Value.int .i64 x.till] _ hat Tryd.underlying52 rfl lease_size ?_)
          refine HC.out.mono ?_
          rintro e w4 ⟨rfl, hg4, ht4⟩
          have HT4 := Lib.hid (ht4 trivial)
          have bx4 := bx.gr hg4 (by omega)
          have hg6 := grown_trans hg5 hg4
          have hay4 : At w4 (a.add (j * 3)) (rowL y) := (hay.below hbr' (by rw [block_of_add]; omega)).gr hg4 (by rw [block_of_add]; have := hbr'.size; omega) (by rw [block_of_add]; omega)
          clear hat hay ht4
          go_wp2_with fail
          have hwj : IntKind.i64.wrap (j : Int) = (j : Int) := IntWalk.i64_in _ (by omega)
          have hj0 : (0 : Int) ≤ (j : Int) := by omega
          have hj1 : (j : Int) < (l.length : Int) := by omega
          refine wp_region_abv (by kernel_rfl) (by kernel_rfl) ?_
          repeat (first
            | (refine wpQuiet_load_g (by first | rfl | kernel_rfl) _ _ rfl ⟨wr.heap.size, 0, none⟩ rfl [Value.string x.job, Value.string x.node, Value.int .i64 x.till] _ (fun w5 hw5 => At.blk (bx4.below hw5 bx4.lt)) Tryd.underlying52 rfl lease_size ?_; simp only [Act.put, List.setIfInBounds_toArray, List.set_cons_zero, List.set_cons_succ])
            | (refine wpQuiet_load_g (by first | rfl | kernel_rfl) _ _ rfl (a.add (j * 3)) rfl [Value.string y.job, Value.string y.node, Value.int .i64 y.till] _ (fun w5 hw5 => hay4.below hw5 (by rw [block_of_add]; have := hbr'.size; have := hg4.size; omega)) Tryd.underlying52 rfl lease_size ?_; simp only [Act.put, List.setIfInBounds_toArray, List.set_cons_zero, List.set_cons_succ])
            | (apply wpQuiet_do; (focus (first | rfl | kernel_rfl)); (focus (intro w5 hw5; unfold Oper.quietAt; go_simp; first | rfl | exact ⟨rfl, rfl⟩ | (with_reducible refine (leaseKey_any x w5).mono ?_; rintro e w8 ⟨rfl, hb8⟩; exact ⟨rfl, Abv.step hw5 hb8⟩) | (with_reducible refine (leaseKey_any y w5).mono ?_; rintro e w8 ⟨rfl, hb8⟩; exact ⟨rfl, Abv.step hw5 hb8⟩))); simp only [Act.put, List.setIfInBounds_toArray, List.set_cons_zero, List.set_cons_succ]))
          refine wpQuiet_nil ?_
          intro w7 hw7
          have hb7 : Below w4.heap.size w4 w7 := hw7
          have hl7 := HL.out
          clear hwj hj0 hj1
          generalize (Op.bytesLess (LeaseD.job x).toList (LeaseD.job y).toList || (LeaseD.job x).toList == (LeaseD.job y).toList) = bo at hl7 ⊢
          subst hl7
          go_wp2_with fail
          refine ⟨⟨j + 1 + 1, by omega, by go_num, grown_trans hg6 (grown_below hb7 _), (show TabIs _ gt bj bn bu jobs nodes _ from HT4.out.below hb7), HF.out⟩, by simp [intOf]; omega⟩
        · exact absurd hbo (by simp [prevOf, badOrd])
        · -- not in order
          have hy : l[j]? = some l[j] := List.getElem?_eq_getElem (by omega)
          have hle : leS (LeaseD.job x) (LeaseD.job l[j]) = true := by
            have : badOrd LeaseD.job (some l[j]) x = true := by rw [← hbo]; congr 1; exact hy.symm
            exact this
          generalize l[j] = y at *
          obtain ⟨a', ha', _, _, hay⟩ := helr.at_ (k := j) (r := rowL y) (by rw [List.getElem?_map, hy]; rfl)
          obtain rfl : a = a' := by injection ha'
          unfold leS at hle
          have HL := Lib.hid hle
          clear hc HR0 hE hbo hdr hpv hx hy ha' HR hle hut hfit
          go_wp2_with (refine wpList_load_at rfl _ _ rfl (a.add ((j + 1) * 3)) rfl [Value.string x.job, Value.string x.node, Value.int .i64 x.till] _ hat Tryd.underlying52 rfl lease_size ?_)
          refine HC.out.mono ?_
          rintro e w4 ⟨rfl, hg4, ht4⟩
          have HT4 := Lib.hid (ht4 trivial)
          have bx4 := bx.gr hg4 (by omega)
          have hg6 := grown_trans hg5 hg4
          have hay4 : At w4 (a.add (j * 3)) (rowL y) := (hay.below hbr' (by rw [block_of_add]; omega)).gr hg4 (by rw [block_of_add]; have := hbr'.size; omega) (by rw [block_of_add]; omega)
          clear hat hay ht4
          go_wp2_with fail
          have hwj : IntKind.i64.wrap (j : Int) = (j : Int) := IntWalk.i64_in _ (by omega)
          have hj0 : (0 : Int) ≤ (j : Int) := by omega
          have hj1 : (j : Int) < (l.length : Int) := by omega
          refine wp_region_abv (by kernel_rfl) (by kernel_rfl) ?_
          repeat (first
            | (refine wpQuiet_load_g (by first | rfl | kernel_rfl) _ _ rfl ⟨wr.heap.size, 0, none⟩ rfl [Value.string x.job, Value.string x.node, Value.int .i64 x.till] _ (fun w5 hw5 => At.blk (bx4.below hw5 bx4.lt)) Tryd.underlying52 rfl lease_size ?_; simp only [Act.put, List.setIfInBounds_toArray, List.set_cons_zero, List.set_cons_succ])
            | (refine wpQuiet_load_g (by first | rfl | kernel_rfl) _ _ rfl (a.add (j * 3)) rfl [Value.string y.job, Value.string y.node, Value.int .i64 y.till] _ (fun w5 hw5 => hay4.below hw5 (by rw [block_of_add]; have := hbr'.size; have := hg4.size; omega)) Tryd.underlying52 rfl lease_size ?_; simp only [Act.put, List.setIfInBounds_toArray, List.set_cons_zero, List.set_cons_succ])
            | (apply wpQuiet_do; (focus (first | rfl | kernel_rfl)); (focus (intro w5 hw5; unfold Oper.quietAt; go_simp; first | rfl | exact ⟨rfl, rfl⟩ | (with_reducible refine (leaseKey_any x w5).mono ?_; rintro e w8 ⟨rfl, hb8⟩; exact ⟨rfl, Abv.step hw5 hb8⟩) | (with_reducible refine (leaseKey_any y w5).mono ?_; rintro e w8 ⟨rfl, hb8⟩; exact ⟨rfl, Abv.step hw5 hb8⟩))); simp only [Act.put, List.setIfInBounds_toArray, List.set_cons_zero, List.set_cons_succ]))
          refine wpQuiet_nil ?_
          intro w7 hw7
          have hb7 : Below w4.heap.size w4 w7 := hw7
          have hl7 := HL.out
          clear hwj hj0 hj1
          generalize (Op.bytesLess (LeaseD.job x).toList (LeaseD.job y).toList || (LeaseD.job x).toList == (LeaseD.job y).toList) = bo at hl7 ⊢
          subst hl7
          go_wp2_with fail
          go_ret
          exact ⟨by rw [HF.out]; rfl, grown_trans hg6 (grown_below hb7 _), fun h0 => by rw [HF.out] at h0; cases h0⟩
      · rw [rowsE_cons_bad _ _ _ _ _ hE] at HR0
        have hne2 : ((leaseE jobs nodes x : Int) != 0) = true := by rw [bne_iff_ne]; omega
        have HF := Lib.hid HR0
        have HE := Lib.hid hE
        have HC := Lib.hid hc
        clear hc HR0 hE hdr hpv hx HR hut
        go_wp2_with (refine wpList_load_at rfl _ _ rfl (a.add (k * 3)) rfl [Value.string x.job, Value.string x.node, Value.int .i64 x.till] _ hat Tryd.underlying52 rfl lease_size ?_)
        refine HC.out.mono ?_
        rintro e w4 ⟨rfl, hg4, _⟩
        go_wp2_with fail
        go_ret
        exact ⟨by rw [HF.out]; rfl, grown_trans hg5 hg4, fun h0 => absurd (HF.out.symm.trans h0) HE.out⟩
    · obtain rfl : k = l.length := by omega
      have HR0 := HR.out
      rw [List.drop_length] at HR0
      have hT1 := HT.out
      rw [List.take_length] at hT1
      have HT1 := Lib.hid hT1
      have HF := Lib.hid HR0
      clear HR0 HR hT1
      go_wp2_with fail
      go_ret
      exact ⟨by rw [HF.out]; rfl, hgr, fun _ => HT1.out⟩
end Go.Proofs.YtoepchgoacdodaaDoor
