/-
  The contract of state.Rows at jobs.
-/
import Derived.Test.YtoepchgoacdodaaDoorRowsH
set_option linter.unusedVariables false
set_option linter.unusedSimpArgs false
namespace Go.Proofs.YtoepchgoacdodaaDoor
open Go.RowKit
set_option maxHeartbeats 4000000 in
set_option maxRecDepth 100000 in
theorem rowsJ_any (p : Option Addr) (c : Nat) (l : List JobD) (w : World) (hel : Elts w w.heap.size 5 p (l.map rowJ)) (hok : ∀ x ∈ l, x.name.size ≤ 9223372036854775807 ∧ x.tag.size ≤ 9223372036854775807) (hl : l.length ≤ 4611686018427387904) (hT : Tabs w) :
    Calls Tryd.prog 20 #[.slice p l.length c, .func (.func 21) #[] #[], .func (.func 22) #[] #[]] w fun e w' => e = .returned (.int .i64 (rowsE JobD.name jobE none l : Int)) ∧ Below w.heap.size w w' := by
  have HOK := Lib.hid hok
  clear hok
  go_enter Tryd.func20, Tryd.ntmps20
  go_wp2_with fail
  go_loopw [12] (fun i wr => ∃ k : Nat, k ≤ l.length ∧ i = .int .i64 k ∧ Below w.heap.size w wr ∧ Hid (rowsE JobD.name jobE none l = rowsE JobD.name jobE (prevOf l k) (l.drop k))) (fun i _ => l.length - (intOf i).toNat)
  case atStart => exact ⟨0, Nat.zero_le _, rfl, Below.refl _ _, (show _ = _ from rfl)⟩
  case round =>
    obtain ⟨k, hk, rfl, hbr, HR⟩ := hrel
    by_cases hlt : k < l.length
    · have hx : l[k]? = some l[k] := List.getElem?_eq_getElem hlt
      have hg := HOK.out l[k] (List.getElem_mem hlt)
      have hdr := drop_at l k _ hx
      have hpv := prevOf_at l k _ hx
      generalize l[k] = x at *
      obtain ⟨a, rfl, hab, _, hat⟩ := (hel.below hbr).at_ (k := k) (r := rowJ x) (by rw [List.getElem?_map, hx]; rfl)
      have hb5 := hbr.alloc hbr.size (.cells #[Value.string x.name, Value.int .i64 x.prio, Value.int .i64 x.need, Value.int .i64 x.tries, Value.string x.tag] 44)
      have bx := Blk.new wr 44 #[Value.string x.name, Value.int .i64 x.prio, Value.int .i64 x.need, Value.int .i64 x.tries, Value.string x.tag]
      have hc := checkJob_any x (wr.alloc (.cells #[Value.string x.name, Value.int .i64 x.prio, Value.int .i64 x.need, Value.int .i64 x.tries, Value.string x.tag] 44)) hg.1 hg.2 (hT.below hb5)
      have hwr := hbr.size
      have hbr' : Below wr.heap.size wr (wr.alloc (.cells #[Value.string x.name, Value.int .i64 x.prio, Value.int .i64 x.need, Value.int .i64 x.tries, Value.string x.tag] 44)) := (Below.refl _ _).alloc (Nat.le_refl _) _
      have HR0 := HR.out
      rw [hdr] at HR0
      by_cases hE : jobE x = 0
      · rw [hE] at hc
        have HC := Lib.hid hc
        cases hbo : badOrd JobD.name (prevOf l k) x
        all_goals
          first
            | rw [rowsE_cons_ok _ _ _ _ _ hE hbo, ← hpv] at HR0
            | rw [rowsE_cons_ord _ _ _ _ _ hE hbo] at HR0
          have HF := Lib.hid HR0
        all_goals
          obtain rfl | ⟨j, rfl⟩ : k = 0 ∨ ∃ j, k = j + 1 := by
            rcases k with _ | j
            · exact .inl rfl
            · exact .inr ⟨j, rfl⟩
        · clear hc HR0 hE hbo hdr hpv hx HR
          go_wp2_with (refine wpList_load_at rfl _ _ rfl (a.add (0 * 5)) rfl [Value.string x.name, Value.int .i64 x.prio, Value.int .i64 x.need, Value.int .i64 x.tries, Value.string x.tag] _ hat Tryd.underlying44 rfl job_size ?_)
          refine HC.out.mono ?_
          rintro e w4 ⟨rfl, hb4⟩
          have bx4 := bx.below hb4 bx.lt
          have hb6 := hb5.trans (hb4.mono hb5.size)
          clear hat
          go_wp2_with fail
          go_quiet (fail)
          go_wp2_with fail
          go_roundw
          case rel => exact ⟨1, by omega, rfl, below_drewN hb6 _, HF.out⟩
          case measure => simp [intOf]; omega
        · -- in order
          have hy : l[j]? = some l[j] := List.getElem?_eq_getElem (by omega)
          have hle : leS (JobD.name x) (JobD.name l[j]) = false := by
            have : badOrd JobD.name (some l[j]) x = false := by rw [← hbo]; congr 1; exact hy.symm
            exact this
          generalize l[j] = y at *
          obtain ⟨a', ha', _, _, hay⟩ := (hel.below hbr).at_ (k := j) (r := rowJ y) (by rw [List.getElem?_map, hy]; rfl)
          obtain rfl : a = a' := by injection ha'
          unfold leS at hle
          have HL := Lib.hid hle
          clear hc HR0 hE hbo hdr hpv hx hy ha' HR hle
          go_wp2_with (refine wpList_load_at rfl _ _ rfl (a.add ((j + 1) * 5)) rfl [Value.string x.name, Value.int .i64 x.prio, Value.int .i64 x.need, Value.int .i64 x.tries, Value.string x.tag] _ hat Tryd.underlying44 rfl job_size ?_)
          refine HC.out.mono ?_
          rintro e w4 ⟨rfl, hb4⟩
          have bx4 := bx.below hb4 bx.lt
          have hb6 := hb5.trans (hb4.mono hb5.size)
          have hay4 := (hay.below hbr' (by rw [block_of_add]; exact Nat.lt_of_lt_of_le hab hwr)).below hb4 (by rw [block_of_add]; have := hbr'.size; omega)
          clear hat hay
          go_wp2_with fail
          have hwj : IntKind.i64.wrap (j : Int) = (j : Int) := IntWalk.i64_in _ (by omega)
          have hj0 : (0 : Int) ≤ (j : Int) := by omega
          have hj1 : (j : Int) < (l.length : Int) := by omega
          refine wp_region_abv (by kernel_rfl) (by kernel_rfl) ?_
          repeat (first
            | (refine wpQuiet_load_g (by first | rfl | kernel_rfl) _ _ rfl ⟨wr.heap.size, 0, none⟩ rfl [Value.string x.name, Value.int .i64 x.prio, Value.int .i64 x.need, Value.int .i64 x.tries, Value.string x.tag] _ (fun w5 hw5 => At.blk (bx4.below hw5 bx4.lt)) Tryd.underlying44 rfl job_size ?_; simp only [Act.put, List.setIfInBounds_toArray, List.set_cons_zero, List.set_cons_succ])
            | (refine wpQuiet_load_g (by first | rfl | kernel_rfl) _ _ rfl (a.add (j * 5)) rfl [Value.string y.name, Value.int .i64 y.prio, Value.int .i64 y.need, Value.int .i64 y.tries, Value.string y.tag] _ (fun w5 hw5 => hay4.below hw5 (by rw [block_of_add]; have := hbr'.size; have := hb4.size; omega)) Tryd.underlying44 rfl job_size ?_; simp only [Act.put, List.setIfInBounds_toArray, List.set_cons_zero, List.set_cons_succ])
            | (apply wpQuiet_do; (focus (first | rfl | kernel_rfl)); (focus (intro w5 hw5; unfold Oper.quietAt; go_simp; first | rfl | exact ⟨rfl, rfl⟩ | (with_reducible refine (jobKey_any x w5).mono ?_; rintro e w8 ⟨rfl, hb8⟩; exact ⟨rfl, Abv.step hw5 hb8⟩) | (with_reducible refine (jobKey_any y w5).mono ?_; rintro e w8 ⟨rfl, hb8⟩; exact ⟨rfl, Abv.step hw5 hb8⟩))); simp only [Act.put, List.setIfInBounds_toArray, List.set_cons_zero, List.set_cons_succ]))
          refine wpQuiet_nil ?_
          intro w7 hw7
          have hb7 : Below w4.heap.size w4 w7 := hw7
          have hl7 := HL.out
          clear hwj hj0 hj1
          generalize (Op.bytesLess (JobD.name x).toList (JobD.name y).toList || (JobD.name x).toList == (JobD.name y).toList) = bo at hl7 ⊢
          subst hl7
          go_wp2_with fail
          refine ⟨⟨j + 1 + 1, by omega, by go_num, hb6.trans (hb7.mono hb6.size), HF.out⟩, by simp [intOf]; omega⟩
        · exact absurd hbo (by simp [prevOf, badOrd])
        · -- not in order
          have hy : l[j]? = some l[j] := List.getElem?_eq_getElem (by omega)
          have hle : leS (JobD.name x) (JobD.name l[j]) = true := by
            have : badOrd JobD.name (some l[j]) x = true := by rw [← hbo]; congr 1; exact hy.symm
            exact this
          generalize l[j] = y at *
          obtain ⟨a', ha', _, _, hay⟩ := (hel.below hbr).at_ (k := j) (r := rowJ y) (by rw [List.getElem?_map, hy]; rfl)
          obtain rfl : a = a' := by injection ha'
          unfold leS at hle
          have HL := Lib.hid hle
          clear hc HR0 hE hbo hdr hpv hx hy ha' HR hle
          go_wp2_with (refine wpList_load_at rfl _ _ rfl (a.add ((j + 1) * 5)) rfl [Value.string x.name, Value.int .i64 x.prio, Value.int .i64 x.need, Value.int .i64 x.tries, Value.string x.tag] _ hat Tryd.underlying44 rfl job_size ?_)
          refine HC.out.mono ?_
          rintro e w4 ⟨rfl, hb4⟩
          have bx4 := bx.below hb4 bx.lt
          have hb6 := hb5.trans (hb4.mono hb5.size)
          have hay4 := (hay.below hbr' (by rw [block_of_add]; exact Nat.lt_of_lt_of_le hab hwr)).below hb4 (by rw [block_of_add]; have := hbr'.size; omega)
          clear hat hay
          go_wp2_with fail
          have hwj : IntKind.i64.wrap (j : Int) = (j : Int) := IntWalk.i64_in _ (by omega)
          have hj0 : (0 : Int) ≤ (j : Int) := by omega
          have hj1 : (j : Int) < (l.length : Int) := by omega
          refine wp_region_abv (by kernel_rfl) (by kernel_rfl) ?_
          repeat (first
            | (refine wpQuiet_load_g (by first | rfl | kernel_rfl) _ _ rfl ⟨wr.heap.size, 0, none⟩ rfl [Value.string x.name, Value.int .i64 x.prio, Value.int .i64 x.need, Value.int .i64 x.tries, Value.string x.tag] _ (fun w5 hw5 => At.blk (bx4.below hw5 bx4.lt)) Tryd.underlying44 rfl job_size ?_; simp only [Act.put, List.setIfInBounds_toArray, List.set_cons_zero, List.set_cons_succ])
            | (refine wpQuiet_load_g (by first | rfl | kernel_rfl) _ _ rfl (a.add (j * 5)) rfl [Value.string y.name, Value.int .i64 y.prio, Value.int .i64 y.need, Value.int .i64 y.tries, Value.string y.tag] _ (fun w5 hw5 => hay4.below hw5 (by rw [block_of_add]; have := hbr'.size; have := hb4.size; omega)) Tryd.underlying44 rfl job_size ?_; simp only [Act.put, List.setIfInBounds_toArray, List.set_cons_zero, List.set_cons_succ])
            | (apply wpQuiet_do; (focus (first | rfl | kernel_rfl)); (focus (intro w5 hw5; unfold Oper.quietAt; go_simp; first | rfl | exact ⟨rfl, rfl⟩ | (with_reducible refine (jobKey_any x w5).mono ?_; rintro e w8 ⟨rfl, hb8⟩; exact ⟨rfl, Abv.step hw5 hb8⟩) | (with_reducible refine (jobKey_any y w5).mono ?_; rintro e w8 ⟨rfl, hb8⟩; exact ⟨rfl, Abv.step hw5 hb8⟩))); simp only [Act.put, List.setIfInBounds_toArray, List.set_cons_zero, List.set_cons_succ]))
          refine wpQuiet_nil ?_
          intro w7 hw7
          have hb7 : Below w4.heap.size w4 w7 := hw7
          have hl7 := HL.out
          clear hwj hj0 hj1
          generalize (Op.bytesLess (JobD.name x).toList (JobD.name y).toList || (JobD.name x).toList == (JobD.name y).toList) = bo at hl7 ⊢
          subst hl7
          go_wp2_with fail
          go_ret
          exact ⟨by rw [HF.out]; rfl, hb6.trans (hb7.mono hb6.size)⟩
      · rw [rowsE_cons_bad _ _ _ _ _ hE] at HR0
        have hne : ((jobE x : Int) != 0) = true := by rw [bne_iff_ne]; omega
        have HF := Lib.hid HR0
        have HC := Lib.hid hc
        clear hc HR0 hE hdr hpv hx HR
        go_wp2_with (refine wpList_load_at rfl _ _ rfl (a.add (k * 5)) rfl [Value.string x.name, Value.int .i64 x.prio, Value.int .i64 x.need, Value.int .i64 x.tries, Value.string x.tag] _ hat Tryd.underlying44 rfl job_size ?_)
        refine HC.out.mono ?_
        rintro e w4 ⟨rfl, hb4⟩
        go_wp2_with fail
        go_ret
        exact ⟨by rw [HF.out]; rfl, hb5.trans (hb4.mono hb5.size)⟩
    · obtain rfl : k = l.length := by omega
      have HR0 := HR.out
      rw [List.drop_length] at HR0
      have HF := Lib.hid HR0
      clear HR0 HR
      go_wp2_with fail
      go_ret
      exact ⟨by rw [HF.out]; rfl, hbr⟩
end Go.Proofs.YtoepchgoacdodaaDoor
