/-
  Several texts in one: BsfJ, PlaJ, DelJe, InsJ, PutJs, TakJ, PuoJ.
-/
import Derived.Test.YtaioadbenigdpaaGreatDoorPkSvA
import Derived.Test.YtaioadbenigdpaaGreatDoorPkStateA
import Derived.Test.YtaioadbenigdpaaGreatDoorPkMapB
import Derived.Test.YtaioadbenigdpaaGreatDoorPkHeld
import Derived.Test.YtaioadbenigdpaaGreatDoorPkMapA
import Derived.IntWalk
import Derived.Test.YtaioadbenigdpaaGreatDoorPkElts
import Derived.Test.YtaioadbenigdpaaGreatDoorPkDelA
import Derived.Shelf.Spec.SlicesInsertGrow
set_option linter.unusedVariables false
set_option linter.unusedSimpArgs false
set_option maxHeartbeats 16000000
set_option maxRecDepth 100000
namespace Go.Proofs.YtaioadbenigdpaaGreatDoor
open Go.RowKit
theorem bsearchJ_any (K : FuncId) (caps : Array Value) (cf : JobD → Int) (tv : Value) (p : Option Addr) (c : Nat) (l : List JobD) (w : World) (hel : Elts w w.heap.size 5 p (l.map rowJ)) (hl : l.length ≤ 1000000000) (hf : CmpTo Tryz.prog w K caps rowJ tv cf l)
  (hmono : ∀ (a b : Nat) (x y : JobD), a ≤ b → l[a]? = some x → l[b]? = some y → cf y < 0 → cf x < 0) :
  Calls Tryz.prog 112 #[.slice p l.length c, tv, .func (.func K) #[] caps] w fun e w' => ∃ k is, e = .returned (.tuple #[.int .i64 ((k : Nat) : Int), .bool is]) ∧ FoundAt cf l k is ∧ Below w.heap.size w w' := by
 have HF := Lib.hid hf.calls
 have hen := hf.enter
 have M := Lib.hid hmono
 clear hf hmono
 go_enter Tryz.func112, Tryz.ntmps112
 go_wp2_with fail
 go_loopw [9, 10] (fun i j wr => ∃ lo hi : Nat, i = .int .i64 lo ∧ j = .int .i64 hi ∧ lo ≤ hi ∧ hi ≤ l.length ∧ Below w.heap.size w wr ∧ Hid ((∀ t x, t < lo → l[t]? = some x → cf x < 0) ∧ (∀ t x, hi ≤ t → l[t]? = some x → 0 ≤ cf x))) (fun i j _ => (intOf j).toNat - (intOf i).toNat)
 case atStart => exact ⟨0, l.length, rfl, rfl, Nat.zero_le _, Nat.le_refl _, Below.refl _ _, (show (∀ (t : Nat) (y : JobD), t < 0 → l[t]? = some y → cf y < 0) ∧ (∀ (t : Nat) (y : JobD), l.length ≤ t → l[t]? = some y → 0 ≤ cf y) from ⟨fun t x h => absurd h (Nat.not_lt_zero _), fun t x h hx => by rw [List.getElem?_eq_none h] at hx; cases hx⟩)⟩
 case round =>
  obtain ⟨lo, hi, rfl, rfl, hlh, hin, hbr, I⟩ := hrel
  by_cases hlt : lo < hi
  ·obtain ⟨m, hm⟩ : ∃ m, m = (lo + hi) / 2 := ⟨_, rfl⟩
   have hml : m < l.length := by omega
   have hm1 : lo ≤ m := by omega
   have hm2 : m < hi := by omega
   have hmd : ((lo : Int) + (hi : Int)) / 2 = ((m : Nat) : Int) := by omega
   have hx : l[m]? = some l[m] := List.getElem?_eq_getElem hml
   have hc := HF.out l[m] (List.getElem_mem hml) wr hbr
   generalize l[m] = x at *
   clear hm
   obtain ⟨a, rfl, hab, _, hat⟩ := (hel.below hbr).at_ (k := m) (r := rowJ x) (by rw [List.getElem?_map, hx]; rfl)
   have X := Lib.hid hx
   have HC := Lib.hid hc
   clear hx hc
   by_cases hyx : cf x < 0
   ·go_wp2_with (refine wpList_load_at_w (by rfl) _ _ rfl (a.add (m * 5)) rfl [Value.string x.name, Value.int .i64 x.prio, Value.int .i64 x.need, Value.int .i64 x.tries, Value.string x.tag] _ hat Tryz.underlying31 rfl job_size ?_)
    refine HC.out.mono ?_
    rintro e w1 ⟨rfl, hb1⟩
    have hB := hbr.trans (hb1.mono hbr.size)
    clear hb1 hat
    go_wp2_with fail
    go_roundw
    case rel => exact ⟨m + 1, hi, by go_num, rfl, by omega, hin, hB, (show (∀ (t : Nat) (y : JobD), t < m + 1 → l[t]? = some y → cf y < 0) ∧ (∀ (t : Nat) (y : JobD), hi ≤ t → l[t]? = some y → 0 ≤ cf y) from ⟨fun t y ht hy => M.out t m y x (by omega) hy X.out hyx, I.out.2⟩)⟩
    case measure => simp [intOf]; omega
   ·go_wp2_with (refine wpList_load_at_w (by rfl) _ _ rfl (a.add (m * 5)) rfl [Value.string x.name, Value.int .i64 x.prio, Value.int .i64 x.need, Value.int .i64 x.tries, Value.string x.tag] _ hat Tryz.underlying31 rfl job_size ?_)
    refine HC.out.mono ?_
    rintro e w1 ⟨rfl, hb1⟩
    have hB := hbr.trans (hb1.mono hbr.size)
    clear hb1 hat
    go_wp2_with fail
    go_roundw
    case rel => exact ⟨lo, m, rfl, by go_num, by omega, by omega, hB, (show (∀ (t : Nat) (y : JobD), t < lo → l[t]? = some y → cf y < 0) ∧ (∀ (t : Nat) (y : JobD), m ≤ t → l[t]? = some y → 0 ≤ cf y) from ⟨I.out.1, fun t y ht hy => Int.not_lt.1 fun hc => by have := M.out m t x y ht X.out hy hc; omega⟩)⟩
    case measure => simp [intOf]; omega
  ·obtain rfl : hi = lo := by omega
   by_cases hn : hi < l.length
   ·have hx : l[hi]? = some l[hi] := List.getElem?_eq_getElem hn
    have hc := HF.out l[hi] (List.getElem_mem hn) wr hbr
    generalize l[hi] = x at *
    obtain ⟨a, rfl, hab, _, hat⟩ := (hel.below hbr).at_ (k := hi) (r := rowJ x) (by rw [List.getElem?_map, hx]; rfl)
    have X := Lib.hid hx
    have HC := Lib.hid hc
    clear hx hc
    by_cases hyx : cf x = 0
    ·go_wp2_with (refine wpList_load_at_w (by rfl) _ _ rfl (a.add (hi * 5)) rfl [Value.string x.name, Value.int .i64 x.prio, Value.int .i64 x.need, Value.int .i64 x.tries, Value.string x.tag] _ hat Tryz.underlying31 rfl job_size ?_)
     refine HC.out.mono ?_
     rintro e w1 ⟨rfl, hb1⟩
     go_wp2_with fail
     go_ret2
     exact ⟨hi, true, by simp [hyx], ⟨hin, I.out.1, fun y hy => Int.not_lt.2 (I.out.2 hi y (Nat.le_refl _) hy), ⟨fun _ => ⟨x, X.out, hyx⟩, fun _ => rfl⟩⟩, hbr.trans (hb1.mono hbr.size)⟩
    ·go_wp2_with (refine wpList_load_at_w (by rfl) _ _ rfl (a.add (hi * 5)) rfl [Value.string x.name, Value.int .i64 x.prio, Value.int .i64 x.need, Value.int .i64 x.tries, Value.string x.tag] _ hat Tryz.underlying31 rfl job_size ?_)
     refine HC.out.mono ?_
     rintro e w1 ⟨rfl, hb1⟩
     go_wp2_with fail
     go_ret2
     exact ⟨hi, false, by simp [hyx], ⟨hin, I.out.1, fun y hy => Int.not_lt.2 (I.out.2 hi y (Nat.le_refl _) hy), ⟨fun h => (by cases h), fun ⟨y, hy, hz⟩ => by rw [X.out] at hy; injection hy with hy; exact absurd (hy ▸ hz) hyx⟩⟩, hbr.trans (hb1.mono hbr.size)⟩
   ·go_wp2_with fail
    go_ret2
    exact ⟨hi, false, rfl, ⟨hin, I.out.1, fun y hy => Int.not_lt.2 (I.out.2 hi y (Nat.le_refl _) hy), ⟨fun h => (by cases h), fun ⟨y, hy, _⟩ => by rw [List.getElem?_eq_none (by omega)] at hy; cases hy⟩⟩, hbr⟩
open Go.RowKit
theorem plcJ_any (gk : Nat) (x : JobD) (s : ByteArray) (w : World) (hk : w.cell? ⟨gk, 0, none⟩ = some (.func (.func 30) #[] #[])) (hlt : gk < w.heap.size) :
  Calls Tryz.prog 113 #[.agg #[.string x.name, .int .i64 x.prio, .int .i64 x.need, .int .i64 x.tries, .string x.tag], .string s, .pointer (some ⟨gk, 0, none⟩)] w fun e w' => e = .returned (.int .i64 (cmpB x.name s)) ∧ Below w.heap.size w w' := by
 have hb0 : Below w.heap.size w (w.alloc (.cells #[.string x.name, .int .i64 x.prio, .int .i64 x.need, .int .i64 x.tries, .string x.tag] 31)) := (Below.refl _ _).alloc (Nat.le_refl _) _
 have bx0 := Blk.new w 31 #[.string x.name, .int .i64 x.prio, .int .i64 x.need, .int .i64 x.tries, .string x.tag]
 have hk0 : ∀ W, Below w.heap.size w W → W.cell? ⟨gk, 0, none⟩ = some (.func (.func 30) #[] #[]) := fun W hW => (hW.cell (p := ⟨gk, 0, none⟩) hlt).trans hk
 have hk1 := hk0 _ hb0
 have HK := Lib.hid hk0
 have HX := Lib.hid (fun W => keyxJ_any x W)
 clear hk0 hk
 go_enter Tryz.func113, Tryz.ntmps113
 go_wp2_with fail
 generalize w.alloc _ = w0 at *
 go_wp2_with (refine wpList_load_blk rfl _ _ rfl w.heap.size rfl _ _ bx0 _ Tryz.underlying31 rfl job_size ?_)
 refine (HX.out _).mono ?_
 rintro e w1 ⟨rfl, rfl⟩
 have hB := hb0.alloc hb0.size (.cells #[.string x.name, .int .i64 x.prio, .int .i64 x.need, .int .i64 x.tries, .string x.tag] 31)
 go_wp2_with fail
 refine (compare_any x.name s _).mono ?_
 rintro e w2 ⟨rfl, rfl⟩
 go_wp2_with fail
 go_ret
 exact ⟨rfl, hB⟩
theorem placeJ_any (s : ByteArray) (p : Option Addr) (c : Nat) (l : List JobD) (w : World) (hel : Elts w w.heap.size 5 p (l.map rowJ)) (hs : Sorted JobD.name l) (hl : l.length ≤ 1000000000) :
  Calls Tryz.prog 78 #[.slice p l.length c, .string s, .func (.func 30) #[] #[]] w fun e w' => e = .returned (.tuple #[.int .i64 ((posL JobD.name l s : Nat) : Int), .bool (hasL JobD.name l s)]) ∧ Below w.heap.size w w' := by
 have hk0 : (w.alloc (.cells #[.func (.func 30) #[] #[]] 78)).cell? ⟨w.heap.size, 0, none⟩ = some (.func (.func 30) #[] #[]) := (Blk.new w _ #[.func (.func 30) #[] #[]]).cell 0
 have hb0 : Below w.heap.size w (w.alloc (.cells #[.func (.func 30) #[] #[]] 78)) := (Below.refl _ _).alloc (Nat.le_refl _) _
 have hlt0 : w.heap.size < (w.alloc (.cells #[.func (.func 30) #[] #[]] 78)).heap.size := by simp
 have hel0 := (hel.below hb0).more hb0.size
 go_enter Tryz.func78, Tryz.ntmps78
 go_wp2_with fail
 generalize w.alloc _ = w0 at *
 have HB := Lib.hid (bsearchJ_any 113 #[.pointer (some ⟨w.heap.size, 0, none⟩)] (fun x => cmpB x.name s) (.string s) p c l w0 hel0 hl
  ⟨fun args W => by kernel_rfl, fun x hx W hW => plcJ_any w.heap.size x s W ((hW.cell (p := ⟨w.heap.size, 0, none⟩) hlt0).trans hk0) (Nat.lt_of_lt_of_le hlt0 hW.size)⟩
  (fun a b x y hab hx hy hc => by
   rcases Nat.lt_or_eq_of_le hab with h | rfl
   ·obtain ⟨ha, rfl⟩ := List.getElem?_eq_some_iff.1 hx
    obtain ⟨hb, rfl⟩ := List.getElem?_eq_some_iff.1 hy
    exact (cmpB_neg _ _).2 (ltS_trans (List.pairwise_iff_getElem.1 hs a b ha hb h) ((cmpB_neg _ _).1 hc))
   ·rw [hx] at hy; injection hy with hy; subst hy; exact hc))
 clear hel hel0
 go_wp2_with fail
 refine HB.out.mono ?_
 rintro e w1 ⟨k, is, rfl, hF, hb1⟩
 obtain ⟨e1, e2⟩ := hF.place hs
 go_wp2_with fail
 go_ret2
 exact ⟨by rw [e1, e2]; rfl, hb0.trans (hb1.mono hb0.size)⟩
open Go.RowKit
theorem map_rowJ_len (l : List JobD) : ∀ r ∈ l.map rowJ, r.length = 5 := fun r hr => by obtain ⟨x, _, rfl⟩ := List.mem_map.1 hr; rfl
theorem map_rowJ_one (l : List JobD) : ∀ v ∈ (l.map rowJ).flatten, v.oneCell' = true := fun v hv => by
 obtain ⟨r, hr, hv⟩ := List.mem_flatten.1 hv
 obtain ⟨x, _, rfl⟩ := List.mem_map.1 hr
 simp [rowJ] at hv
 rcases hv with rfl | rfl | rfl | rfl | rfl <;> rfl
theorem deleteJ_any (l : List JobD) (k : Nat) (base : Nat) (p : Option Addr) (c : Nat) (w : World) (hO : OwnR w base 31 5 p c (l.map rowJ)) (hk : k < l.length) :
  Calls Tryz.prog 82 #[.slice p l.length c, .int .i64 (k : Int), .int .i64 ((k : Int) + 1)] w fun e w' =>
   ∃ g, p = some ⟨g, 0, none⟩ ∧ base ≤ g ∧ e = .returned (.slice p (l.eraseIdx k).length c) ∧ OwnR w' base 31 5 p c ((l.eraseIdx k).map rowJ) ∧ w.grownBy w' (some g) := by
 have hne : l.map rowJ ≠ [] := by intro h; have := congrArg List.length h; simp at this; subst this; simp at hk
 obtain ⟨g, rest, rfl, hbg, hg, hlen, hlc, hcm⟩ := hO.at_ hne
 rw [List.length_map] at hlc
 have hA : l = l.take k ++ l[k] :: l.drop (k + 1) := by rw [← List.drop_eq_getElem_cons hk, List.take_append_drop]
 have hE : l.eraseIdx k = l.take k ++ l.drop (k + 1) := List.eraseIdx_eq_take_drop_succ _ _
 have hel : (l.eraseIdx k).length = l.length - 1 := List.length_eraseIdx_of_lt hk
 have hla : (l.take k).length = k := by rw [List.length_take]; omega
 have hlb : (l.drop (k + 1)).length = l.length - (k + 1) := List.length_drop
 obtain ⟨hu, hz0, hz1, hz2⟩ := info_parts job_infoC
 generalize hAA : l.take k = A at *
 generalize hBB : l.drop (k + 1) = B at *
 generalize l[k] = x at *
 have ha : ((A.map rowJ).flatten).length = k * 5 := by rw [flat_len (map_rowJ_len A), List.length_map, hla]
 have hb : ((B.map rowJ).flatten).length = (l.length - (k + 1)) * 5 := by rw [flat_len (map_rowJ_len B), List.length_map, hlb]
 have hfl : (l.map rowJ).flatten = (A.map rowJ).flatten ++ (rowJ x ++ (B.map rowJ).flatten) := by rw [hA]; simp
 obtain ⟨u, v, huv, hul⟩ := part_len (rowJ x ++ (B.map rowJ).flatten) ((B.map rowJ).flatten).length (by simp)
 have hvl : v.length = 5 := by
  have h := congrArg List.length huv
  rw [List.length_append, List.length_append, hul] at h
  have h2 : (rowJ x).length = 5 := rfl
  omega
 -- the cells, parted three ways
 have hg1 : w.heap[g]? = some (.cells ((A.map rowJ).flatten ++ u ++ (v ++ rest)).toArray 31 (0, 0)) := by rw [hg, hfl, huv]; simp
 have hg0 : w.heap[g]? = some (.cells (((A.map rowJ).flatten ++ rowJ x) ++ (B.map rowJ).flatten ++ rest).toArray 31 (0, 0)) := by rw [hg, hfl]; simp
 have hn1 : l.length - (k + 1) + k = l.length - 1 := by omega
 have x0 : (0 : Int) ≤ (k : Int) := by omega
 have x1 : (k : Int) + 1 ≤ (l.length : Int) := by omega
 have x2 : (l.length : Int) ≤ (c : Int) := by omega
 have x3 : (k : Int) ≤ (k : Int) + 1 := by omega
 have x4 : ((k : Int) == (k : Int) + 1) = false := by rw [beq_eq_false_iff_ne]; omega
 have x5 : ((k : Int) + 1).toNat = k + 1 := by omega
 have x6 : (k : Int) ≤ (l.length : Int) := by omega
 have x7 : k ≤ c := by omega
 have x8 : k + 1 ≤ c := by omega
 have x9 : k + 1 ≤ l.length := by omega
 have x10 : k ≤ l.length := by omega
 have x11 : (0 : Int) ≤ (k : Int) + 1 := by omega
 obtain ⟨n1, hln⟩ : ∃ n1, l.length = n1 + 1 := ⟨l.length - 1, by omega⟩
 obtain ⟨ad, had⟩ : ∃ ad : Addr, (if c = k + 1 then some (⟨g, 0, none⟩ : Addr) else some ⟨g, (k + 1) * 5, none⟩) = some ad ∧ (0 < l.length - (k + 1) → ad = ⟨g, (k + 1) * 5, none⟩) := by
  by_cases hc : c = k + 1
  ·exact ⟨_, by rw [if_pos hc], fun h => by omega⟩
  ·exact ⟨_, by rw [if_neg hc], fun _ => rfl⟩
 obtain ⟨had, hadr⟩ := had
 have hsrc : ∀ j v, ((B.map rowJ).flatten)[j]? = some v → w.cell? (ad.add j) = some v := fun j v hv => by
  have hpos : 0 < l.length - (k + 1) := by
   have := (List.getElem?_eq_some_iff.1 hv).1
   rw [hb] at this
   rcases Nat.eq_zero_or_pos (l.length - (k + 1)) with h0 | h0
   ·rw [h0] at this; simp at this
   ·exact h0
  rw [hadr hpos]
  refine cells_mid hg0 ((k + 1) * 5) ?_ j v hv
  rw [List.length_append, ha]; have h2 : (rowJ x).length = 5 := rfl; rw [h2]; omega
 have hap := fun ty => run_append_mid (P := Tryz.prog) (w := w.drew) ty 22 31 hu 5 Tryz.underlying22 hz0 hz2.1 k c ad (l.length - (k + 1)) (c - (k + 1)) hg1 ha hul.symm hb (by omega) hsrc (map_rowJ_one B)
 have e1 : k + (l.length - (k + 1)) = n1 := by omega
 rw [e1] at hap
 have HAP := Lib.hid hap
 have hg2 : (w.drew.setRow g ((A.map rowJ).flatten ++ (B.map rowJ).flatten ++ (v ++ rest)).toArray).heap[g]? = some (.cells ((((A.map rowJ).flatten ++ (B.map rowJ).flatten) ++ v) ++ rest).toArray 31 (0, 0)) := by
  rw [setRow_at (w := w.drew) hg1]; simp
 have e2 : l.length - n1 = 1 := by omega
 have hcl := fun ty => run_clear_mid (P := Tryz.prog) ty 22 31 (.agg #[.string ByteArray.empty, .int .i64 0, .int .i64 0, .int .i64 0, .string ByteArray.empty]) Tryz.underlying22 (fun W => zeroJ_lit W) (l.length - n1) (c - n1) (n1 * 5) (by omega) hg2 (by rw [List.length_append, ha, hb, ← Nat.add_mul, e1]) (vs := [Value.string ByteArray.empty, Value.int .i64 0, Value.int .i64 0, Value.int .i64 0, Value.string ByteArray.empty]) (by rw [e2]; simp [Builtin.zeroCells, Value.cells]; rfl) (by rw [hvl]; rfl) (by intro u hu; simp at hu; rcases hu with rfl | rfl | rfl | rfl | rfl <;> rfl)
 have HCL := Lib.hid hcl
 have hg3 := setRow_at (cs' := ((((A.map rowJ).flatten ++ (B.map rowJ).flatten) ++ [Value.string ByteArray.empty, Value.int .i64 0, Value.int .i64 0, Value.int .i64 0, Value.string ByteArray.empty]) ++ rest).toArray) hg2
 have hO3 : ∀ W : World, W.heap[g]? = some (.cells ((((A.map rowJ).flatten ++ (B.map rowJ).flatten) ++ [Value.string ByteArray.empty, Value.int .i64 0, Value.int .i64 0, Value.int .i64 0, Value.string ByteArray.empty]) ++ rest).toArray 31 (0, 0)) → OwnR W base 31 5 (some ⟨g, 0, none⟩) c ((l.eraseIdx k).map rowJ) := fun W hW => by
  refine OwnR.of_ (rest := [Value.string ByteArray.empty, Value.int .i64 0, Value.int .i64 0, Value.int .i64 0, Value.string ByteArray.empty] ++ rest) (map_rowJ_len _) hbg ?_ ?_ (by rw [List.length_map, hel]; omega) hcm
  ·rw [hW, hE]; simp
  ·rw [hE]
   have h3 := hlen
   rw [hA] at h3
   simp only [List.map_append, List.map_cons, List.flatten_append, List.flatten_cons, List.length_append] at h3 ⊢
   have h2 : (rowJ x).length = 5 := rfl
   have h4 : ([Value.string ByteArray.empty, Value.int .i64 0, Value.int .i64 0, Value.int .i64 0, Value.string ByteArray.empty] : List Value).length = 5 := rfl
   omega
 have HO3 := Lib.hid (hO3 _ hg3)
 have y1 : n1 ≤ l.length := by omega
 have y2 : (n1 : Int) ≤ (l.length : Int) := by omega
 have y3 : (c = n1) = False := eq_false (by omega)
 have y4 : l.length ≤ c := hlc
 have hel2 : (l.eraseIdx k).length = n1 := by omega
 clear hcl hg2 hg3 hO3
 generalize ((((A.map rowJ).flatten ++ (B.map rowJ).flatten) ++ [Value.string ByteArray.empty, Value.int .i64 0, Value.int .i64 0, Value.int .i64 0, Value.string ByteArray.empty]) ++ rest).toArray = CS at *
 clear hO hA hfl huv hAA hBB hne hg hap hsrc hE hel hln hla hlb ha hb hul hvl hg1 hg0 hn1 hadr e1 e2
 go_enter Tryz.func82, Tryz.ntmps82
 go_upto_region 5 with fail
 have G0 : GrB w g w.drew := GrB.start _ _
 refine wp_region_held_drew (S := GrB w g) (by kernel_rfl) G0 (fun hHeld => ?_)
 refine tk 0 (v := ?_) rfl (Or.inl ⟨by rfl, ?_⟩) ?_
 rotate_left
 ·(intro w5 hw5; go_simp; (try with_reducible rfl))
 (try simp only [Act.put, ma, mb, mc, md, me, mf])
 refine tk 1 (v := ?_) rfl (Or.inl ⟨by rfl, ?_⟩) ?_
 rotate_left
 ·(intro w5 hw5; go_simp; (try with_reducible rfl))
 (try simp only [Act.put, ma, mb, mc, md, me, mf])
 refine tk 2 (v := ?_) rfl (Or.inl ⟨by rfl, ?_⟩) ?_
 rotate_left
 ·(intro w5 hw5; go_simp; (try with_reducible rfl))
 (try simp only [Act.put, ma, mb, mc, md, me, mf])
 refine tk 3 (v := ?_) rfl (Or.inl ⟨by rfl, ?_⟩) ?_
 rotate_left
 ·(intro w5 hw5; go_simp; (try with_reducible rfl))
 (try simp only [Act.put, ma, mb, mc, md, me, mf])
 refine tk 4 (v := ?_) rfl (Or.inl ⟨by rfl, ?_⟩) ?_
 rotate_left
 ·(intro w5 hw5; go_simp; (try with_reducible rfl))
 (try simp only [Act.put, ma, mb, mc, md, me, mf])
 refine tk 5 (v := ?_) rfl (Or.inl ⟨by rfl, ?_⟩) ?_
 rotate_left
 ·(intro w5 hw5; go_simp; (try with_reducible rfl))
 (try simp only [Act.put, ma, mb, mc, md, me, mf])
 refine tr 6 rfl (fun K hK => ?_)
 refine step_append_run rfl _ _ 22 22 rfl (.slice (some ⟨g, 0, none⟩) k c) (.slice (some ad) (l.length - (k + 1)) (c - (k + 1))) (by simp [Act.eval, Act.put]) (by simp [Act.eval, Act.put]) (HAP.out _) ?_
 refine hK.out _ _ ?_ (fun hHeld => ?_)
 ·exact GrB.row G0 _
 clear hK K
 (try simp only [Act.put, ma, mb, mc, md, me, mf])
 refine tk 7 (v := ?_) rfl (Or.inl ⟨by rfl, ?_⟩) ?_
 rotate_left
 ·(intro w5 hw5; go_simp; (try with_reducible rfl))
 (try simp only [Act.put, ma, mb, mc, md, me, mf])
 refine wpAnyH_done (by kernel_rfl) ?_ _
 have G1 := GrB.row G0 ((A.map rowJ).flatten ++ (B.map rowJ).flatten ++ (v ++ rest)).toArray
 generalize w.drew.setRow g _ = w1 at *
 have hclr := HCL.out 0
 go_wp2_with fail
 go_ret
 exact ⟨g, rfl, hbg, by rw [hel2]; rfl, HO3.out, GrB.row G1 _⟩
open Go.RowKit
theorem insertJ_end (l : List JobD) (k : Nat) (x : JobD) (gv base : Nat) (p : Option Addr) (c : Nat) (w : World) (hO : OwnR w base 31 5 p c (l.map rowJ)) (hv : Blk w gv 31 #[.string x.name, .int .i64 x.prio, .int .i64 x.need, .int .i64 x.tries, .string x.tag]) (hbw : base ≤ w.heap.size) (hl : l.length ≤ 1000) (hk : k = l.length) :
  Calls Tryz.prog 79 #[.slice p l.length c, .int .i64 (k : Int), .slice (some ⟨gv, 0, none⟩) 1 1] w fun e w' => ∃ p' c', e = .returned (.slice p' (l.length + 1) c') ∧ OwnR w' base 31 5 p' c' ((l.take k ++ x :: l.drop k).map rowJ) ∧ w.grownBy w' (Value.slice p l.length c).ownBlock := by
 subst hk
 obtain ⟨hu, hz0, hz1, hz2, hz3⟩ := info_parts job_infoC
 have hfin : ∀ p' c' (W : World), W.ownsRow base 31 5 (.slice p' (l.length + 1) c') (l.length + 1) ((l.map rowJ).flatten ++ rowJ x) → OwnR W base 31 5 p' c' ((l.take l.length ++ x :: l.drop l.length).map rowJ) := fun p' c' W h => by
  refine ⟨map_rowJ_len _, ?_⟩
  have e1 : (l.take l.length ++ x :: l.drop l.length) = l ++ [x] := by simp
  rw [e1]
  simpa using h
 have HF := Lib.hid hfin
 have x0 : (0 : Int) ≤ (l.length : Int) := by omega
 have hOo := hO.2
 rw [List.length_map] at hOo
 have hcl : l.length ≤ c := by
  rcases hOo.2 with ⟨h0, h1⟩ | ⟨g, cap, cur, h0, _, _, h1, _⟩
  ·omega
  ·injection h0 with _ _ h2; omega
 have x1 : (l.length : Int) ≤ (c : Int) := by omega
 have hn1 : ¬ ((1 : Int) = 0) := by decide
 rcases hOo.2 with ⟨h0, h1⟩ | ⟨g, cap, cur, h0, h2⟩
 ·injection h0 with e1 e2 e3
  subst e1 e3
  have hl0 : l = [] := List.eq_nil_of_length_eq_zero h1
  subst hl0
  clear hfin hO
  go_enter Tryz.func79, Tryz.ntmps79
  go_wp2_with (first
   | (at_builtin; refine wpList_append_any _ rfl _ _ 22 rfl base 31 hu _ 5 56 Tryz.underlying22 hz0 hz1 hz2 hz3 rfl (by decide) _ _ _ rfl hOo _ (some ⟨gv, 0, none⟩) 1 1 (rowJ x) rfl (Blk.reads1 hv rfl) (by intro u hu; simp [rowJ] at hu; rcases hu with rfl | rfl | rfl | rfl | rfl <;> rfl) (by unfold maxLen; omega) (by omega) hbw ?_; intro v3 w3 hO3 hg3 _; obtain ⟨p3, c3, rfl⟩ := own_form hO3))
  all_goals
   go_ret
   exact ⟨p3, c3, rfl, by simpa using HF.out _ _ _ hO3, hg3⟩
 ·injection h0 with e1 e2 e3
  subst e1
  clear h2 hfin hO
  go_enter Tryz.func79, Tryz.ntmps79
  go_wp2_with (first
   | (at_builtin; refine wpList_append_any _ rfl _ _ 22 rfl base 31 hu _ 5 56 Tryz.underlying22 hz0 hz1 hz2 hz3 rfl (by decide) _ _ _ rfl hOo _ (some ⟨gv, 0, none⟩) 1 1 (rowJ x) rfl (Blk.reads1 hv rfl) (by intro u hu; simp [rowJ] at hu; rcases hu with rfl | rfl | rfl | rfl | rfl <;> rfl) (by unfold maxLen; omega) (by omega) hbw ?_; intro v3 w3 hO3 hg3 _; obtain ⟨p3, c3, rfl⟩ := own_form hO3))
  all_goals
   go_ret
   exact ⟨p3, c3, rfl, by simpa using HF.out _ _ _ hO3, hg3⟩
theorem insertJ_room (l : List JobD) (k : Nat) (x : JobD) (gv base : Nat) (p : Option Addr) (c : Nat) (w : World) (hO : OwnR w base 31 5 p c (l.map rowJ)) (hv : Blk w gv 31 #[.string x.name, .int .i64 x.prio, .int .i64 x.need, .int .i64 x.tries, .string x.tag]) (hbw : base ≤ w.heap.size) (hl : l.length ≤ 1000) (hk : k < l.length) (hgv : ∀ g, p = some ⟨g, 0, none⟩ → g ≠ gv) (hroom : l.length + 1 ≤ c) :
  Calls Tryz.prog 79 #[.slice p l.length c, .int .i64 (k : Int), .slice (some ⟨gv, 0, none⟩) 1 1] w fun e w' => ∃ p' c', e = .returned (.slice p' (l.length + 1) c') ∧ OwnR w' base 31 5 p' c' ((l.take k ++ x :: l.drop k).map rowJ) ∧ w.grownBy w' (Value.slice p l.length c).ownBlock := by
 have hne : l.map rowJ ≠ [] := by intro h; have := congrArg List.length h; simp at this; subst this; simp at hk
 obtain ⟨g, rest, rfl, hbg, hg, hlen, hlc, hcm⟩ := hO.at_ hne
 have hgv := hgv g rfl
 rw [List.length_map] at hlc
 have hA : l = l.take k ++ l.drop k := (List.take_append_drop k l).symm
 have hla : (l.take k).length = k := by rw [List.length_take]; omega
 have hlb : (l.drop k).length = l.length - k := List.length_drop
 obtain ⟨hu, hz0, hz1, hz2⟩ := info_parts job_infoC
 have hfl : (l.map rowJ).flatten.length = l.length * 5 := by rw [flat_len (map_rowJ_len l), List.length_map]
 generalize hAA : l.take k = A at *
 generalize hBB : l.drop k = B at *
 have ha : ((A.map rowJ).flatten).length = k * 5 := by rw [flat_len (map_rowJ_len A), List.length_map, hla]
 have hb : ((B.map rowJ).flatten).length = (l.length - k) * 5 := by rw [flat_len (map_rowJ_len B), List.length_map, hlb]
 have hfe : (l.map rowJ).flatten = (A.map rowJ).flatten ++ (B.map rowJ).flatten := by rw [hA]; simp
 have hx5 : (rowJ x).length = 5 := rfl
 obtain ⟨z, r, hzr, hzl⟩ := part_len rest 5 (by rw [List.length_append, hfl] at hlen; have := Nat.mul_le_mul_right 5 hroom; rw [Nat.add_mul] at this; omega)
 obtain ⟨h, t, hht, hhl⟩ := part_len ((B.map rowJ).flatten ++ z) 5 (by rw [List.length_append]; omega)
 have htl : t.length = ((B.map rowJ).flatten).length := by
  have h' := congrArg List.length hht
  rw [List.length_append, List.length_append, hhl, hzl] at h'
  omega
 have hg0 : w.heap[g]? = some (.cells ((A.map rowJ).flatten ++ (B.map rowJ).flatten ++ rest).toArray 31 (0, 0)) := by rw [hg, hfe]
 have hg1 : w.drew.heap[g]? = some (.cells (((A.map rowJ).flatten ++ h) ++ t ++ r).toArray 31 (0, 0)) := by
  show w.heap[g]? = _
  rw [hg0, hzr, List.append_assoc, ← List.append_assoc _ z r, hht]; simp
 have hg2 := setRow_at (cs' := (((A.map rowJ).flatten ++ h) ++ (B.map rowJ).flatten ++ r).toArray) hg1
 have hg2' : (w.drew.setRow g (((A.map rowJ).flatten ++ h) ++ (B.map rowJ).flatten ++ r).toArray).heap[g]? = some (.cells ((A.map rowJ).flatten ++ h ++ ((B.map rowJ).flatten ++ r)).toArray 31 (0, 0)) := by rw [hg2]; simp
 have hg3 := setRow_at (cs' := ((A.map rowJ).flatten ++ rowJ x ++ ((B.map rowJ).flatten ++ r)).toArray) hg2'
 have hv2 : Blk (w.drew.setRow g (((A.map rowJ).flatten ++ h) ++ (B.map rowJ).flatten ++ r).toArray) gv 31 #[.string x.name, .int .i64 x.prio, .int .i64 x.need, .int .i64 x.tries, .string x.tag] := hv.drew.setRow_far (Ne.symm hgv) _
 have hsz : (Tryz.prog.info? 31).map (·.size) = some 5 := job_size
 have m1 : Nat.min (l.length + 1 - k) (l.length + 1 - (k + 1)) = l.length - k := by show min _ _ = _; omega
 have m2 : Nat.min 1 (l.length + 1 - k) = 1 := by show min _ _ = _; omega
 have hcp1 := fun ty => run_copy_mid (P := Tryz.prog) 5 22 22 ty 31 ((k + 1) * 5) (l.length + 1 - (k + 1)) (c - (k + 1)) ⟨g, k * 5, none⟩ (l.length + 1 - k) (c - k) Tryz.underlying22 hsz hg1 (by rw [List.length_append, ha, hhl]; omega) (by rw [hb, m1]) htl.symm (cells_mid hg0 (k * 5) ha.symm) (map_rowJ_one B)
 have hcp2 := fun ty => run_copy_mid (P := Tryz.prog) 5 22 22 ty 31 (k * 5) (l.length + 1 - k) (c - k) ⟨gv, 0, none⟩ 1 1 Tryz.underlying22 hsz hg2' ha.symm (vs := rowJ x) (by rw [hx5, m2]) (by rw [hx5, hhl]) (fun j u hj => by rw [Addr.add_lit, Nat.zero_add, hv2.cell]; simpa [rowJ] using hj) (by intro u hu; simp [rowJ] at hu; rcases hu with rfl | rfl | rfl | rfl | rfl <;> rfl)
 have HO3 : ∀ W : World, W.heap[g]? = some (.cells ((A.map rowJ).flatten ++ rowJ x ++ ((B.map rowJ).flatten ++ r)).toArray 31 (0, 0)) → OwnR W base 31 5 (some ⟨g, 0, none⟩) c ((A ++ x :: B).map rowJ) := fun W hW => by
  refine OwnR.of_ (rest := r) (map_rowJ_len _) hbg ?_ ?_ (by rw [List.length_map, List.length_append, List.length_cons, hla, hlb]; omega) hcm
  ·rw [hW]; simp
  ·have h3 := hlen
   rw [hfe, hzr] at h3
   simp only [List.map_append, List.map_cons, List.flatten_append, List.flatten_cons, List.length_append, hzl, hx5] at h3 ⊢
   omega
 have HO := Lib.hid (HO3 _ hg3)
 have hov : ∀ lb cb, (callFunc 114 #[.slice (some ⟨gv, 0, none⟩) 1 1, .slice (some ⟨g, (k + 1) * 5, none⟩) lb cb]).run Tryz.prog w = .ok (.value (.bool false)) w := fun lb cb => by
  rw [run_callFunc_extern Tryz.func114 (by kernel_rfl) (by kernel_rfl) (by kernel_rfl) (e := Extern.SlicesOverlaps.overlaps #[22, 22] #[4]) (by kernel_rfl),
   Lib.run_overlaps_apart w 22 4 31 Tryz.underlying22 5 (fun W => by kernel_rfl) ⟨gv, 0, none⟩ ⟨g, (k + 1) * 5, none⟩ 1 1 lb cb (Ne.symm hgv) 31 31 5 ((l.map rowJ).flatten ++ rest).length (by simp [World.shape?, show w.heap[gv]? = some _ from hv]) (by simp [World.shape?, hg]) (by rw [hlen]; have := Nat.mul_le_mul_right 5 hroom; rw [Nat.add_mul] at this; omega) (hv.frozen 0) (hv.frozen 5)]
  rfl
 have x0 : (0 : Int) ≤ (k : Int) := by omega
 have x1 : (k : Int) ≤ (l.length : Int) := by omega
 have x2 : ((k : Int) == (l.length : Int)) = false := by rw [beq_eq_false_iff_ne]; omega
 have x3 : ¬ ((c : Int) < (l.length : Int) + 1) := by omega
 have x4 : (c = k + 1) = False := eq_false (by omega)
 have x5 : (c = k) = False := eq_false (by omega)
 have x6 : ((k : Int) + 1).toNat = k + 1 := by omega
 have x7 : ((l.length : Int) + 1).toNat = l.length + 1 := by omega
 have x8 : (0 : Int) ≤ (k : Int) + 1 := by omega
 have x9 : (0 : Int) ≤ (l.length : Int) + 1 := by omega
 have x10 : (k : Int) + 1 ≤ (l.length : Int) + 1 := by omega
 have x11 : (l.length : Int) + 1 ≤ (c : Int) := by omega
 have x12 : (k : Int) ≤ (l.length : Int) + 1 := by omega
 have x13 : k + 1 ≤ l.length + 1 := by omega
 have x14 : k ≤ l.length + 1 := by omega
 have x15 : k ≤ l.length := by omega
 have x16 : k ≤ c := by omega
 have x17 : IntKind.i64.wrap ((k : Int) + 1) = (k : Int) + 1 := IntWalk.i64_in _ (by omega)
 have x18 : IntKind.i64.wrap ((l.length : Int) + 1) = (l.length : Int) + 1 := IntWalk.i64_in _ (by omega)
 have HC1 := Lib.hid hcp1
 have HC2 := Lib.hid hcp2
 generalize (((A.map rowJ).flatten ++ h) ++ (B.map rowJ).flatten ++ r).toArray = CS1 at *
 generalize ((A.map rowJ).flatten ++ rowJ x ++ ((B.map rowJ).flatten ++ r)).toArray = CS2 at *
 clear hO hA hla hlb hfl hAA hBB ha hb hfe hht htl hg0 hg1 hg2 hg2' hg3 hv2 hsz m1 hcp1 hcp2 HO3 hne hg hv hzr hzl hhl hlen
 rw [m2] at HC2
 go_enter Tryz.func79, Tryz.ntmps79
 go_upto_region 15 with (simp only [hov])
 have G0 : GrB w g w.drew := GrB.start _ _
 refine wp_region_held_drew (S := GrB w g) (by kernel_rfl) G0 (fun hHeld => ?_)
 refine tk 0 (v := ?_) rfl (Or.inl ⟨by rfl, ?_⟩) ?_
 rotate_left
 ·(intro w5 hw5; go_simp; (try with_reducible rfl))
 (try simp only [Act.put, ma, mb, mc, md, me, mf])
 refine tk 1 (v := ?_) rfl (Or.inl ⟨by rfl, ?_⟩) ?_
 rotate_left
 ·(intro w5 hw5; go_simp; (try with_reducible rfl))
 (try simp only [Act.put, ma, mb, mc, md, me, mf])
 refine tk 2 (v := ?_) rfl (Or.inl ⟨by rfl, ?_⟩) ?_
 rotate_left
 ·(intro w5 hw5; go_simp; (try with_reducible rfl))
 (try simp only [Act.put, ma, mb, mc, md, me, mf])
 refine tk 3 (v := ?_) rfl (Or.inl ⟨by rfl, ?_⟩) ?_
 rotate_left
 ·(intro w5 hw5; go_simp; (try with_reducible rfl))
 (try simp only [Act.put, ma, mb, mc, md, me, mf])
 refine tk 4 (v := ?_) rfl (Or.inl ⟨by rfl, ?_⟩) ?_
 rotate_left
 ·(intro w5 hw5; go_simp; (try with_reducible rfl))
 (try simp only [Act.put, ma, mb, mc, md, me, mf])
 refine tk 5 (v := ?_) rfl (Or.inl ⟨by rfl, ?_⟩) ?_
 rotate_left
 ·(intro w5 hw5; go_simp; (try with_reducible rfl))
 (try simp only [Act.put, ma, mb, mc, md, me, mf])
 refine tk 6 (v := ?_) rfl (Or.inl ⟨by rfl, ?_⟩) ?_
 rotate_left
 ·(intro w5 hw5; go_simp; (try with_reducible rfl))
 (try simp only [Act.put, ma, mb, mc, md, me, mf])
 refine tk 7 (v := ?_) rfl (Or.inl ⟨by rfl, ?_⟩) ?_
 rotate_left
 ·(intro w5 hw5; go_simp; (try with_reducible rfl))
 (try simp only [Act.put, ma, mb, mc, md, me, mf])
 refine tr 8 rfl (fun K hK => ?_)
 refine step_copy_run rfl _ _ 22 22 rfl (.slice (some ⟨g, (k + 1) * 5, none⟩) (l.length + 1 - (k + 1)) (c - (k + 1))) (.slice (some ⟨g, k * 5, none⟩) (l.length + 1 - k) (c - k)) (by simp [Act.eval, Act.put]) (by simp [Act.eval, Act.put]) (HC1.out _) ?_
 refine hK.out _ _ ?_ (fun hHeld => ?_)
 ·exact GrB.row G0 _
 clear hK K
 (try simp only [Act.put, ma, mb, mc, md, me, mf])
 refine wpAnyH_done (by kernel_rfl) ?_ _
 have G1 := GrB.row G0 CS1
 generalize w.drew.setRow g CS1 = w1 at *
 have hcc := HC2.out 3
 go_wp2_with fail
 go_ret
 exact ⟨some ⟨g, 0, none⟩, c, rfl, by simpa using HO.out, GrB.row G1 _⟩
theorem insertJ_grow (l : List JobD) (k : Nat) (x : JobD) (gv base : Nat) (p : Option Addr) (c : Nat) (w : World) (hO : OwnR w base 31 5 p c (l.map rowJ)) (hv : Blk w gv 31 #[.string x.name, .int .i64 x.prio, .int .i64 x.need, .int .i64 x.tries, .string x.tag]) (hbw : base ≤ w.heap.size) (hl : l.length ≤ 1000) (hk : k < l.length) (hfull : c < l.length + 1) :
  Calls Tryz.prog 79 #[.slice p l.length c, .int .i64 (k : Int), .slice (some ⟨gv, 0, none⟩) 1 1] w fun e w' => ∃ p' c', e = .returned (.slice p' (l.length + 1) c') ∧ OwnR w' base 31 5 p' c' ((l.take k ++ x :: l.drop k).map rowJ) ∧ w.grownBy w' (Value.slice p l.length c).ownBlock := by
 have hne : l.map rowJ ≠ [] := by intro h; have := congrArg List.length h; simp at this; subst this; simp at hk
 obtain ⟨g, rest, rfl, hbg, hg, hlen, hlc, hcm⟩ := hO.at_ hne
 rw [List.length_map] at hlc
 have hgl : g < w.heap.size := (Array.getElem?_eq_some_iff.1 hg).1
 have hA : l = l.take k ++ l.drop k := (List.take_append_drop k l).symm
 have hla : (l.take k).length = k := by rw [List.length_take]; omega
 have hlb : (l.drop k).length = l.length - k := List.length_drop
 obtain ⟨hu, hz0, hz1, hz2, hz3⟩ := info_parts job_infoC
 generalize hAA : l.take k = A at *
 generalize hBB : l.drop k = B at *
 have ha : ((A.map rowJ).flatten).length = k * 5 := by rw [flat_len (map_rowJ_len A), List.length_map, hla]
 have hb : ((B.map rowJ).flatten).length = (l.length - k) * 5 := by rw [flat_len (map_rowJ_len B), List.length_map, hlb]
 have hfe : (l.map rowJ).flatten = (A.map rowJ).flatten ++ (B.map rowJ).flatten := by rw [hA]; simp
 have hx5 : (rowJ x).length = 5 := rfl
 have hg0 : w.heap[g]? = some (.cells ((A.map rowJ).flatten ++ (B.map rowJ).flatten ++ rest).toArray 31 (0, 0)) := by rw [hg, hfe]
 have hg0' : w.drew.heap[g]? = some (.cells ([] ++ (A.map rowJ).flatten ++ ((B.map rowJ).flatten ++ rest)).toArray 31 (0, 0)) := by show w.heap[g]? = _; rw [hg0]; simp
 have hold : (Builtin.firstCells hu.size k (.slice (some ⟨g, 0, none⟩) k c)).run Tryz.prog w.drew = .ok ((A.map rowJ).flatten).toArray w.drew := by
  rw [hz2]
  exact run_firstCells_some w.drew 5 k ⟨g, 0, none⟩ k c ((A.map rowJ).flatten) ha (cells_mid hg0' 0 rfl)
 have hik : k + (l.length + 1 - k) = l.length + 1 := by omega
 have hkk : (l.length : Int) + 1 - (k : Int) = ((l.length + 1 - k : Nat) : Int) := by omega
 have hrz := fun ty => Lib.run_append_grow_zeros w 22 3 ty 31 hu _ .i64 .i64 Tryz.underlying22 Tryz.underlying3 hz0 hz1 (some ⟨g, 0, none⟩) k c ((A.map rowJ).flatten) hold (l.length + 1 - k) (by omega) (by rw [hz2]; decide) (by omega) (by omega) (by rw [hz3]; omega) (by rw [hz3, hik]; exact growslice_fits hfull (by omega))
 rw [hik, ← hkk] at hrz
 have hG1 : l.length + 1 ≤ grownCap w (l.length + 1) c 31 := grownCap_ge w _ _ _
 have hG2 : grownCap w (l.length + 1) c 31 ≤ maxLen := grownCap_le_maxLen w _ _ _ (by unfold maxLen; omega)
 generalize grownCap w (l.length + 1) c 31 = G at *
 obtain ⟨Z1, hZ1⟩ : ∃ Z1 : List Value, (Builtin.zeroCells (Value.agg #[.string ByteArray.empty, .int .i64 0, .int .i64 0, .int .i64 0, .string ByteArray.empty]).cells (l.length + 1 - k)).toList = Z1 := ⟨_, rfl⟩
 obtain ⟨Z2, hZ2⟩ : ∃ Z2 : List Value, (Builtin.zeroCells (Value.agg #[.string ByteArray.empty, .int .i64 0, .int .i64 0, .int .i64 0, .string ByteArray.empty]).cells (G - (l.length + 1))).toList = Z2 := ⟨_, rfl⟩
 have hl1 : Z1.length = (l.length + 1 - k) * 5 := by rw [← hZ1, Array.length_toList, size_zeroCells]; rfl
 have hl2 : Z2.length = (G - (l.length + 1)) * 5 := by rw [← hZ2, Array.length_toList, size_zeroCells]; rfl
 have hrow : ((A.map rowJ).flatten).toArray ++ Builtin.zeroCells (Value.agg #[.string ByteArray.empty, .int .i64 0, .int .i64 0, .int .i64 0, .string ByteArray.empty]).cells (l.length + 1 - k) ++ Builtin.zeroCells (Value.agg #[.string ByteArray.empty, .int .i64 0, .int .i64 0, .int .i64 0, .string ByteArray.empty]).cells (G - (l.length + 1)) = ((A.map rowJ).flatten ++ Z1 ++ Z2).toArray := by
  rw [← hZ1, ← hZ2]; simp
 rw [hrow] at hrz
 obtain ⟨h1, t1, ht1, hl3⟩ := part_len Z1 5 (by rw [hl1]; have := Nat.mul_le_mul_right 5 (show 1 ≤ l.length + 1 - k by omega); omega)
 have hl4 : t1.length = (l.length - k) * 5 := by
  have h' := congrArg List.length ht1
  rw [hl1, List.length_append, hl3] at h'
  have : (l.length + 1 - k) * 5 = (l.length - k) * 5 + 5 := by rw [show l.length + 1 - k = (l.length - k) + 1 by omega, Nat.add_mul, Nat.one_mul]
  omega
 have hb1 : Below w.heap.size w (w.drew.alloc (.cells ((A.map rowJ).flatten ++ Z1 ++ Z2).toArray 31)) := (Below.refl _ w).drew.alloc (Nat.le_refl _) _
 have hn1 : (w.drew.alloc (.cells ((A.map rowJ).flatten ++ Z1 ++ Z2).toArray 31)).heap[w.heap.size]? = some (.cells ((A.map rowJ).flatten ++ h1 ++ (t1 ++ Z2)).toArray 31 (0, 0)) := by
  rw [ht1]
  have := World.alloc_heap_new w.drew (.cells ((A.map rowJ).flatten ++ (h1 ++ t1) ++ Z2).toArray 31)
  rw [show w.drew.heap.size = w.heap.size from rfl] at this
  rw [this]; simp
 have hgW : (w.drew.alloc (.cells ((A.map rowJ).flatten ++ Z1 ++ Z2).toArray 31)).heap[g]? = some (.cells ((A.map rowJ).flatten ++ (B.map rowJ).flatten ++ rest).toArray 31 (0, 0)) := (hb1.block g hgl).trans hg0
 have hvW := hv.below hb1 hv.lt
 generalize w.drew.alloc _ = W1 at *
 have hN : (W1.setRow w.heap.size ((A.map rowJ).flatten ++ rowJ x ++ (t1 ++ Z2)).toArray).drew.heap[w.heap.size]? = some (.cells (((A.map rowJ).flatten ++ rowJ x) ++ t1 ++ Z2).toArray 31 (0, 0)) := by
  show (W1.setRow w.heap.size _).heap[w.heap.size]? = _
  rw [setRow_at hn1]; simp
 have hgW2 : (W1.setRow w.heap.size ((A.map rowJ).flatten ++ rowJ x ++ (t1 ++ Z2)).toArray).drew.heap[g]? = some (.cells ((A.map rowJ).flatten ++ (B.map rowJ).flatten ++ rest).toArray 31 (0, 0)) := by
  show (W1.setRow w.heap.size _).heap[g]? = _
  rw [setRow_other W1 w.heap.size g _ (by omega)]; exact hgW
 have hsz : (Tryz.prog.info? 31).map (·.size) = some 5 := job_size
 have m1 : Nat.min 1 (l.length + 1 - k) = 1 := by show min _ _ = _; omega
 have m2 : Nat.min (l.length - k) (l.length + 1 - (k + 1)) = l.length - k := by show min _ _ = _; omega
 have hcp1 := fun ty => run_copy_mid (P := Tryz.prog) 5 22 22 ty 31 (k * 5) (l.length + 1 - k) (G - k) ⟨gv, 0, none⟩ 1 1 Tryz.underlying22 hsz hn1 ha.symm (vs := rowJ x) (by rw [hx5, m1]) (by rw [hx5, hl3]) (fun j u hj => by rw [Addr.add_lit, Nat.zero_add, hvW.cell]; simpa [rowJ] using hj) (by intro u hu; simp [rowJ] at hu; rcases hu with rfl | rfl | rfl | rfl | rfl <;> rfl)
 have hcp2 := fun ty => run_copy_mid (P := Tryz.prog) 5 22 22 ty 31 ((k + 1) * 5) (l.length + 1 - (k + 1)) (G - (k + 1)) ⟨g, k * 5, none⟩ (l.length - k) (c - k) Tryz.underlying22 hsz hN (by rw [List.length_append, ha, hx5]; omega) (by rw [hb, m2]) (by rw [hb, hl4]) (cells_mid hgW2 (k * 5) ha.symm) (map_rowJ_one B)
 have hfin := setRow_at (cs' := (((A.map rowJ).flatten ++ rowJ x) ++ (B.map rowJ).flatten ++ Z2).toArray) hN
 have HO3 : ∀ W : World, W.heap[w.heap.size]? = some (.cells (((A.map rowJ).flatten ++ rowJ x) ++ (B.map rowJ).flatten ++ Z2).toArray 31 (0, 0)) → OwnR W base 31 5 (some ⟨w.heap.size, 0, none⟩) G ((A ++ x :: B).map rowJ) := fun W hW => by
  refine OwnR.of_ (rest := Z2) (map_rowJ_len _) hbw ?_ ?_ (by rw [List.length_map, List.length_append, List.length_cons, hla, hlb]; omega) hG2
  ·rw [hW]; simp
  ·simp only [List.map_append, List.map_cons, List.flatten_append, List.flatten_cons, List.length_append, ha, hb, hx5, hl2]
   have e1 : (G - (l.length + 1)) * 5 = G * 5 - (l.length + 1) * 5 := Nat.sub_mul _ _ _
   have e2 := Nat.mul_le_mul_right 5 hG1
   have e3 : (l.length - k) * 5 = l.length * 5 - k * 5 := Nat.sub_mul _ _ _
   have e4 := Nat.mul_le_mul_right 5 (Nat.le_of_lt hk)
   omega
 have HO := Lib.hid (HO3 _ hfin)
 have hbz : Below w.heap.size w ((W1.setRow w.heap.size ((A.map rowJ).flatten ++ rowJ x ++ (t1 ++ Z2)).toArray).drew.setRow w.heap.size (((A.map rowJ).flatten ++ rowJ x) ++ (B.map rowJ).flatten ++ Z2).toArray) := below_setRow (below_setRow hb1 (Nat.le_refl _) _).drew (Nat.le_refl _) _
 have HB := Lib.hid hbz
 have x0 : (0 : Int) ≤ (k : Int) := by omega
 have x1 : (k : Int) ≤ (l.length : Int) := by omega
 have x2 : ((k : Int) == (l.length : Int)) = false := by rw [beq_eq_false_iff_ne]; omega
 have x3 : (c : Int) < (l.length : Int) + 1 := by omega
 have x4 : (G = k + 1) = False := eq_false (by omega)
 have x5 : (c = k) = False := eq_false (by omega)
 have x5b : (G = k) = False := eq_false (by omega)
 have x6 : ((k : Int) + 1).toNat = k + 1 := by omega
 have x8 : (0 : Int) ≤ (k : Int) + 1 := by omega
 have x10 : (k : Int) + 1 ≤ (l.length : Int) + 1 := by omega
 have x12 : (k : Int) ≤ (l.length : Int) + 1 := by omega
 have x13 : k + 1 ≤ l.length + 1 := by omega
 have x14 : k ≤ l.length + 1 := by omega
 have x15 : k ≤ l.length := by omega
 have x16 : k ≤ c := by omega
 have x17 : IntKind.i64.wrap ((k : Int) + 1) = (k : Int) + 1 := IntWalk.i64_in _ (by omega)
 have x18 : IntKind.i64.wrap ((l.length : Int) + 1) = (l.length : Int) + 1 := IntWalk.i64_in _ (by omega)
 have x19 : IntKind.i64.wrap ((l.length : Int) + 1 - (k : Int)) = (l.length : Int) + 1 - (k : Int) := IntWalk.i64_in _ (by omega)
 have HRZ := Lib.hid hrz
 have HC1 := Lib.hid hcp1
 have HC2 := Lib.hid hcp2
 generalize ((A.map rowJ).flatten ++ rowJ x ++ (t1 ++ Z2)).toArray = CS1 at *
 generalize (((A.map rowJ).flatten ++ rowJ x) ++ (B.map rowJ).flatten ++ Z2).toArray = CS2 at *
 clear hO hA hla hlb hAA hBB ha hb hfe hg0 hg0' hg hold hik hkk hrz hZ1 hZ2 hl1 hl2 hrow hl3 hl4 ht1 hb1 hn1 hgW hvW hN hgW2 hsz m2 hcp1 hcp2 hfin HO3 hbz hne hv hlen
 rw [m1] at HC1
 have hcc := HC1.out 3
 go_enter Tryz.func79, Tryz.ntmps79
 go_upto_region 11 with (at_builtin; refine Lib.wpList_append_run _ rfl _ _ _ _ rfl _ _ rfl rfl _ _ (HRZ.out _) ?_)
 have G0 : GrB (W1.setRow w.heap.size CS1) w.heap.size (W1.setRow w.heap.size CS1).drew := GrB.start _ _
 refine wp_region_held_drew (S := GrB (W1.setRow w.heap.size CS1) w.heap.size) (by kernel_rfl) G0 (fun hHeld => ?_)
 refine tk 0 (v := ?_) rfl (Or.inl ⟨by rfl, ?_⟩) ?_
 rotate_left
 ·(intro w5 hw5; go_simp; (try with_reducible rfl))
 (try simp only [Act.put, ma, mb, mc, md, me, mf])
 refine tk 1 (v := ?_) rfl (Or.inl ⟨by rfl, ?_⟩) ?_
 rotate_left
 ·(intro w5 hw5; go_simp; (try with_reducible rfl))
 (try simp only [Act.put, ma, mb, mc, md, me, mf])
 refine tk 2 (v := ?_) rfl (Or.inl ⟨by rfl, ?_⟩) ?_
 rotate_left
 ·(intro w5 hw5; go_simp; (try with_reducible rfl))
 (try simp only [Act.put, ma, mb, mc, md, me, mf])
 refine tk 3 (v := ?_) rfl (Or.inl ⟨by rfl, ?_⟩) ?_
 rotate_left
 ·(intro w5 hw5; go_simp; (try with_reducible rfl))
 (try simp only [Act.put, ma, mb, mc, md, me, mf])
 refine tk 4 (v := ?_) rfl (Or.inl ⟨by rfl, ?_⟩) ?_
 rotate_left
 ·(intro w5 hw5; go_simp; (try with_reducible rfl))
 (try simp only [Act.put, ma, mb, mc, md, me, mf])
 refine tk 5 (v := ?_) rfl (Or.inl ⟨by rfl, ?_⟩) ?_
 rotate_left
 ·(intro w5 hw5; go_simp; (try with_reducible rfl))
 (try simp only [Act.put, ma, mb, mc, md, me, mf])
 refine tk 6 (v := ?_) rfl (Or.inl ⟨by rfl, ?_⟩) ?_
 rotate_left
 ·(intro w5 hw5; go_simp; (try with_reducible rfl))
 (try simp only [Act.put, ma, mb, mc, md, me, mf])
 refine tk 7 (v := ?_) rfl (Or.inl ⟨by rfl, ?_⟩) ?_
 rotate_left
 ·(intro w5 hw5; go_simp; (try with_reducible rfl))
 (try simp only [Act.put, ma, mb, mc, md, me, mf])
 refine tr 8 rfl (fun K hK => ?_)
 refine step_copy_run rfl _ _ 22 22 rfl (.slice (some ⟨w.heap.size, (k + 1) * 5, none⟩) (l.length + 1 - (k + 1)) (G - (k + 1))) (.slice (some ⟨g, k * 5, none⟩) (l.length - k) (c - k)) (by simp [Act.eval, Act.put]) (by simp [Act.eval, Act.put]) (HC2.out _) ?_
 refine hK.out _ _ ?_ (fun hHeld => ?_)
 ·exact GrB.row G0 _
 clear hK K
 (try simp only [Act.put, ma, mb, mc, md, me, mf])
 refine wpAnyH_done (by kernel_rfl) ?_ _
 go_wp2_with fail
 go_ret
 exact ⟨some ⟨w.heap.size, 0, none⟩, G, rfl, by simpa using HO.out, ⟨HB.out.os, HB.out.tape, HB.out.output, HB.out.size, fun j hj _ => HB.out.block j hj⟩⟩
theorem insertJ_any (l : List JobD) (k : Nat) (x : JobD) (gv base : Nat) (p : Option Addr) (c : Nat) (w : World) (hO : OwnR w base 31 5 p c (l.map rowJ)) (hv : Blk w gv 31 #[.string x.name, .int .i64 x.prio, .int .i64 x.need, .int .i64 x.tries, .string x.tag]) (hbw : base ≤ w.heap.size) (hl : l.length ≤ 1000) (hk : k ≤ l.length) (hgv : ∀ g, p = some ⟨g, 0, none⟩ → g ≠ gv) :
  Calls Tryz.prog 79 #[.slice p l.length c, .int .i64 (k : Int), .slice (some ⟨gv, 0, none⟩) 1 1] w fun e w' => ∃ p' c', e = .returned (.slice p' (l.length + 1) c') ∧ OwnR w' base 31 5 p' c' ((l.take k ++ x :: l.drop k).map rowJ) ∧ w.grownBy w' (Value.slice p l.length c).ownBlock := by
 by_cases h1 : k = l.length
 ·exact insertJ_end l k x gv base p c w hO hv hbw hl h1
 ·by_cases h2 : l.length + 1 ≤ c
  ·exact insertJ_room l k x gv base p c w hO hv hbw hl (by omega) hgv h2
  ·exact insertJ_grow l k x gv base p c w hO hv hbw hl (by omega) (by omega)
open Go.RowKit
theorem putJs_any (l : List JobD) (x : JobD) (base : Nat) (p : Option Addr) (c : Nat) (w : World) (hO : OwnR w base 31 5 p c (l.map rowJ)) (hbw : base ≤ w.heap.size) (hs : Sorted JobD.name l) (hl : l.length ≤ 1000) :
  Calls Tryz.prog 40 #[.slice p l.length c, .agg #[.string x.name, .int .i64 x.prio, .int .i64 x.need, .int .i64 x.tries, .string x.tag], .func (.func 30) #[] #[]] w fun e w' =>
   ∃ p' c', e = .returned (.slice p' (putL JobD.name l x).length c') ∧ OwnR w' base 31 5 p' c' ((putL JobD.name l x).map rowJ) ∧ w.grownBy w' (Value.slice p l.length c).ownBlock := by
 have bx0 := Blk.new w 31 #[.string x.name, .int .i64 x.prio, .int .i64 x.need, .int .i64 x.tries, .string x.tag]
 have hb0 : Below w.heap.size w (w.alloc (.cells #[.string x.name, .int .i64 x.prio, .int .i64 x.need, .int .i64 x.tries, .string x.tag] 31)) := (Below.refl _ _).alloc (Nat.le_refl _) _
 have hO0 := hO.below hb0
 have HX := Lib.hid (fun W => keyxJ_any x W)
 have HS := Lib.hid hs
 clear hO hs
 go_enter Tryz.func40, Tryz.ntmps40
 go_upto_region 1 with fail
 generalize w.alloc _ = w0 at *
 go_wp2_with (refine wpList_load_blk rfl _ _ rfl w.heap.size rfl _ _ bx0 _ Tryz.underlying31 rfl job_size ?_)
 refine (HX.out _).mono ?_
 rintro e w1 ⟨rfl, rfl⟩
 have hb1 := hb0.alloc hb0.size (.cells #[.string x.name, .int .i64 x.prio, .int .i64 x.need, .int .i64 x.tries, .string x.tag] 31)
 have bx1 := bx0.alloc (.cells #[.string x.name, .int .i64 x.prio, .int .i64 x.need, .int .i64 x.tries, .string x.tag] 31)
 have hO1 := hO0.below ((Below.refl _ w0).alloc (Nat.le_refl _) (.cells #[.string x.name, .int .i64 x.prio, .int .i64 x.need, .int .i64 x.tries, .string x.tag] 31))
 clear hb0 bx0 hO0
 generalize w0.alloc _ = w1 at *
 go_wp2_with fail
 refine (placeJ_any x.name p c l w1 hO1.elts HS.out (by omega)).mono ?_
 rintro e w2 ⟨rfl, hb2⟩
 have hB2 := hb1.trans (hb2.mono hb1.size)
 have bx2 := bx1.below hb2 bx1.lt
 have hO2 := hO1.below hb2
 clear hb1 bx1 hO1 hb2
 cases hh : hasL JobD.name l x.name
 ·have hp : putL JobD.name l x = l.take (posL JobD.name l x.name) ++ x :: l.drop (posL JobD.name l x.name) := by unfold putL; rw [hh, if_neg (by simp)]
  have hpl : (putL JobD.name l x).length = l.length + 1 := by rw [hp, List.length_append, List.length_cons, List.length_take, List.length_drop]; have := pos_le (key := JobD.name) l x.name; omega
  have hk := pos_le (key := JobD.name) l x.name
  generalize posL JobD.name l x.name = k at *
  have hb3 : Below w2.heap.size w2 (w2.alloc (.cells #[.string x.name, .int .i64 x.prio, .int .i64 x.need, .int .i64 x.tries, .string x.tag] 31)) := (Below.refl _ _).alloc (Nat.le_refl _) _
  have hv3 := Blk.new w2 31 #[.string x.name, .int .i64 x.prio, .int .i64 x.need, .int .i64 x.tries, .string x.tag]
  have HI := Lib.hid (insertJ_any l k x w2.heap.size base p c (w2.alloc (.cells #[.string x.name, .int .i64 x.prio, .int .i64 x.need, .int .i64 x.tries, .string x.tag] 31)) (hO2.below hb3) hv3 (Nat.le_trans hbw (Nat.le_trans hB2.size hb3.size)) hl hk (fun g hg => by
   have := hO2.lt_ (g := g) (by rw [hg]; rfl)
   omega))
  have hB3 := hB2.trans (hb3.mono hB2.size)
  rw [← hp] at HI
  clear hO2 hb3 hv3 hp hB2
  go_wp2_with (refine wpList_load_blk rfl _ _ rfl w.heap.size rfl _ _ bx2 _ Tryz.underlying31 rfl job_size ?_)
  refine HI.out.mono ?_
  rintro e w4 ⟨p', c', rfl, hO4, hg4⟩
  go_wp2_with fail
  go_ret
  exact ⟨p', c', by rw [hpl]; rfl, hO4, grown_of hB3 hg4⟩
 ·obtain ⟨y, hy, hye⟩ := has_at HS.out hh
  obtain ⟨hk, hyk⟩ := List.getElem?_eq_some_iff.1 hy
  have hp : putL JobD.name l x = l.set (posL JobD.name l x.name) x := by unfold putL; rw [hh, if_pos rfl]
  have hpl : (putL JobD.name l x).length = l.length := by rw [hp, List.length_set]
  generalize posL JobD.name l x.name = k at *
  have hset : l.set k x = l.take k ++ x :: l.drop (k + 1) := by rw [List.set_eq_take_append_cons_drop, if_pos hk]
  have hA : l = l.take k ++ y :: l.drop (k + 1) := by rw [← hyk, ← List.drop_eq_getElem_cons hk, List.take_append_drop]
  have hne : l.map rowJ ≠ [] := by intro h; have := congrArg List.length h; simp at this; subst this; simp at hk
  obtain ⟨g, rest, rfl, hbg, hg, hlen, hlc, hcm⟩ := hO2.at_ hne
  have hla : (l.take k).length = k := by rw [List.length_take]; omega
  have hg1 : w2.heap[g]? = some (.cells (((l.take k).map rowJ).flatten ++ rowJ y ++ (((l.drop (k + 1)).map rowJ).flatten ++ rest)).toArray 31 (0, 0)) := by
   rw [hg]; conv => lhs; rw [hA]
   simp
  have ha : (((l.take k).map rowJ).flatten).length = k * 5 := by rw [flat_len (map_rowJ_len _), List.length_map, hla]
  have hg2 := setRow_at (cs' := (((l.take k).map rowJ).flatten ++ rowJ x ++ (((l.drop (k + 1)).map rowJ).flatten ++ rest)).toArray) hg1
  have HO : OwnR (w2.setRow g (((l.take k).map rowJ).flatten ++ rowJ x ++ (((l.drop (k + 1)).map rowJ).flatten ++ rest)).toArray) base 31 5 (some ⟨g, 0, none⟩) c ((putL JobD.name l x).map rowJ) := by
   refine OwnR.of_ (rest := rest) (map_rowJ_len _) hbg ?_ ?_ (by rw [List.length_map, hpl]; simpa using hlc) hcm
   ·rw [hg2, hp, hset]; simp
   ·have h3 := hlen
    rw [List.length_append, flat_len (map_rowJ_len _), List.length_map] at h3 ⊢
    rw [hpl]; exact h3
  have HG := Lib.hid (GrB.row (g := g) ⟨rfl, rfl, rfl, Nat.le_refl _, fun _ _ _ => rfl⟩ (((l.take k).map rowJ).flatten ++ rowJ x ++ (((l.drop (k + 1)).map rowJ).flatten ++ rest)).toArray : GrB w2 g _)
  have HOO := Lib.hid HO
  obtain ⟨CS, hCS⟩ : ∃ CS : Array Value, (((l.take k).map rowJ).flatten ++ rowJ x ++ (((l.drop (k + 1)).map rowJ).flatten ++ rest)).toArray = CS := ⟨_, rfl⟩
  rw [hCS] at HOO HG
  have HCS := Lib.hid hCS
  have HG1 := Lib.hid hg1
  have HA := Lib.hid ha
  have x0 : (0 : Int) ≤ (k : Int) := by omega
  have x1 : (k : Int) < (l.length : Int) := by omega
  clear hO2 hA hne hla hg hg2 HO hset hy hyk hlen hlc hCS hg1 ha
  go_wp2_with (first | (refine wpList_load_blk rfl _ _ rfl w.heap.size rfl _ _ bx2 _ Tryz.underlying31 rfl job_size ?_) | (refine wpList_store_mid rfl _ _ _ rfl (k * 5) rfl (vs := rowJ x) rfl HG1.out HA.out.symm rfl job_size (by intro u hu; simp [rowJ] at hu; rcases hu with rfl | rfl | rfl | rfl | rfl <;> rfl) CS HCS.out ?_))
  go_ret
  exact ⟨some ⟨g, 0, none⟩, c, by rw [hpl]; rfl, HOO.out, grown_of hB2 HG.out⟩
open Go.RowKit
theorem takeJ_any (l : List JobD) (s : ByteArray) (base : Nat) (p : Option Addr) (c : Nat) (w : World) (hO : OwnR w base 31 5 p c (l.map rowJ)) (hs : Sorted JobD.name l) (hl : l.length ≤ 1000) :
  Calls Tryz.prog 42 #[.slice p l.length c, .string s, .func (.func 30) #[] #[]] w fun e w' =>
   ∃ p' c', e = .returned (.tuple #[.slice p' (takeL JobD.name l s).length c', .bool (hasL JobD.name l s)]) ∧ OwnR w' base 31 5 p' c' ((takeL JobD.name l s).map rowJ) ∧ w.grownBy w' (Value.slice p l.length c).ownBlock := by
 have HP := Lib.hid (placeJ_any s p c l w hO.elts hs (by omega))
 have HS := Lib.hid hs
 clear hs
 go_enter Tryz.func42, Tryz.ntmps42
 go_wp2_with fail
 refine HP.out.mono ?_
 rintro e w2 ⟨rfl, hb2⟩
 have hO2 := hO.below hb2
 clear hO HP
 cases hh : hasL JobD.name l s
 ·have hp : takeL JobD.name l s = l := by unfold takeL; rw [hh, if_neg (by simp)]
  go_wp2_with fail
  go_ret2
  exact ⟨p, c, by rw [hp, hh]; rfl, by rw [hp]; exact hO2, grown_below_s _ hb2⟩
 ·obtain ⟨y, hy, hye⟩ := has_at HS.out hh
  obtain ⟨hk, hyk⟩ := List.getElem?_eq_some_iff.1 hy
  have hp : takeL JobD.name l s = l.eraseIdx (posL JobD.name l s) := by unfold takeL; rw [hh, if_pos rfl]
  generalize posL JobD.name l s = k at *
  have HD := Lib.hid (deleteJ_any l k base p c w2 hO2 hk)
  rw [← hp] at HD
  clear hO2 hy hyk hye
  go_wp2_with fail
  refine HD.out.mono ?_
  rintro e w3 ⟨g, rfl, hbg, rfl, hO3, hg3⟩
  go_wp2_with fail
  go_ret2
  exact ⟨some ⟨g, 0, none⟩, c, by rw [hh, hp]; rfl, hO3, grown_of hb2 hg3⟩
open Go.RowKit
theorem insertJ_void (x : JobD) (gv : Nat) (a : Addr) (w : World) (hv : Blk w gv 31 #[.string x.name, .int .i64 x.prio, .int .i64 x.need, .int .i64 x.tries, .string x.tag]) :
  Calls Tryz.prog 79 #[.slice (some a) 0 0, .int .i64 0, .slice (some ⟨gv, 0, none⟩) 1 1] w fun e w' => ∃ p' c', e = .returned (.slice p' 1 c') ∧ OwnR w' w.heap.size 31 5 p' c' [rowJ x] ∧ Below w.heap.size w w' := by
 obtain ⟨hu, hz0, hz1, hz2, hz3⟩ := info_parts job_infoC
 obtain ⟨v3, w3, hr, hO3, hg3⟩ := run_append_arg_grows (P := Tryz.prog) w 22 22 31 hu _ 5 56 Tryz.underlying22 hz0 hz1 hz2 hz3 rfl (by decide) a 0 0 [] rfl (by simp) ⟨gv, 0, none⟩ 1 1 (rowJ x) rfl (fun j u hj => by rw [Addr.add_lit, Nat.zero_add, hv.cell]; simpa [rowJ] using hj) (by decide) (by unfold maxLen; omega) (by omega)
 obtain ⟨p3, c3, rfl⟩ := own_form hO3
 have hO4 : OwnR w3 w.heap.size 31 5 p3 c3 [rowJ x] := ⟨fun r hr => by simp at hr; subst hr; rfl, by simpa using hO3⟩
 have HR := Lib.hid hr
 clear hr hO3
 go_enter Tryz.func79, Tryz.ntmps79
 go_wp2_with (at_builtin; refine Lib.wpList_append_run _ rfl _ _ _ _ rfl _ _ rfl rfl _ _ HR.out ?_)
 go_ret
 exact ⟨p3, c3, rfl, hO4, ⟨hg3.os, hg3.tape, hg3.output, hg3.size, fun k hk => hg3.block k hk (by simp)⟩⟩
theorem putOJ_any (l : List JobD) (x : JobD) (base : Nat) (p : Option Addr) (c : Nat) (w : World) (hO : Own w base 31 5 p c (l.map rowJ)) (hbw : base ≤ w.heap.size) (hs : Sorted JobD.name l) (hl : l.length ≤ 1000) :
  Calls Tryz.prog 40 #[.slice p l.length c, .agg #[.string x.name, .int .i64 x.prio, .int .i64 x.need, .int .i64 x.tries, .string x.tag], .func (.func 30) #[] #[]] w fun e w' =>
   ∃ p' c', e = .returned (.slice p' (putL JobD.name l x).length c') ∧ Own w' base 31 5 p' c' ((putL JobD.name l x).map rowJ) ∧ Tch base 31 w w' ∧ ∀ k t cs, Blk w k t cs → (c ≠ 0 → ∀ a, p = some a → a.block ≠ k) → Blk w' k t cs := by
 rcases hO.toR0 with ⟨h0, h1⟩ | ⟨hR, hc0⟩
 ·have hl0 : l = [] := by simpa using h0
  subst hl0 h1
  cases p with
  | none =>
   refine (putJs_any [] x base none 0 w ⟨fun r hr => by simp at hr, World.ownsRow_nil _ _ _ _⟩ hbw hs hl).mono ?_
   rintro e w' ⟨p', c', rfl, hO', hg⟩
   exact ⟨p', c', rfl, Own.of hO', ⟨none, hg, fun g e => by cases e⟩, fun k t cs hb _ => (hg.block k hb.lt (by simp [Value.ownBlock])).trans hb⟩
  | some a =>
   have hp : putL JobD.name [] x = [x] := rfl
   rw [hp]
   have bx0 := Blk.new w 31 #[.string x.name, .int .i64 x.prio, .int .i64 x.need, .int .i64 x.tries, .string x.tag]
   have hb0 : Below w.heap.size w (w.alloc (.cells #[.string x.name, .int .i64 x.prio, .int .i64 x.need, .int .i64 x.tries, .string x.tag] 31)) := (Below.refl _ _).alloc (Nat.le_refl _) _
   have HX := Lib.hid (fun W => keyxJ_any x W)
   have HPL := Lib.hid (fun W => placeJ_any x.name (some a) 0 [] W Elts.nil_ .nil (by simp))
   clear hO hs
   go_enter Tryz.func40, Tryz.ntmps40
   go_upto_region 1 with fail
   generalize w.alloc _ = w0 at *
   go_wp2_with (refine wpList_load_blk rfl _ _ rfl w.heap.size rfl _ _ bx0 _ Tryz.underlying31 rfl job_size ?_)
   refine (HX.out _).mono ?_
   rintro e w1 ⟨rfl, rfl⟩
   have hb1 := hb0.alloc hb0.size (.cells #[.string x.name, .int .i64 x.prio, .int .i64 x.need, .int .i64 x.tries, .string x.tag] 31)
   have bx1 := bx0.alloc (.cells #[.string x.name, .int .i64 x.prio, .int .i64 x.need, .int .i64 x.tries, .string x.tag] 31)
   clear hb0 bx0
   generalize w0.alloc _ = w1 at *
   go_wp2_with fail
   refine (HPL.out w1).mono ?_
   rintro e w2 ⟨rfl, hb2⟩
   have hB2 := hb1.trans (hb2.mono hb1.size)
   have bx2 := bx1.below hb2 bx1.lt
   have hq : posL JobD.name ([] : List JobD) x.name = 0 := rfl
   have hh : hasL JobD.name ([] : List JobD) x.name = false := rfl
   rw [hq, hh]
   have hb3 : Below w2.heap.size w2 (w2.alloc (.cells #[.string x.name, .int .i64 x.prio, .int .i64 x.need, .int .i64 x.tries, .string x.tag] 31)) := (Below.refl _ _).alloc (Nat.le_refl _) _
   have HI := Lib.hid (insertJ_void x w2.heap.size a (w2.alloc (.cells #[.string x.name, .int .i64 x.prio, .int .i64 x.need, .int .i64 x.tries, .string x.tag] 31)) (Blk.new w2 31 #[.string x.name, .int .i64 x.prio, .int .i64 x.need, .int .i64 x.tries, .string x.tag]))
   have hB3 := hB2.trans (hb3.mono hB2.size)
   clear hb1 bx1 hb2 hb3 hB2 hq hh
   go_wp2_with (refine wpList_load_blk rfl _ _ rfl w.heap.size rfl _ _ bx2 _ Tryz.underlying31 rfl job_size ?_)
   refine HI.out.mono ?_
   rintro e w4 ⟨p', c', rfl, hO4, hb4⟩
   go_wp2_with fail
   go_ret
   exact ⟨p', c', rfl, (Own.of hO4).less (Nat.le_trans hbw hB3.size), Tch.new (hB3.trans (hb4.mono hB3.size)), fun k t cs hb _ => hb.below (hB3.trans (hb4.mono hB3.size)) hb.lt⟩
 ·refine (putJs_any l x base p c w hR hbw hs hl).mono ?_
  rintro e w' ⟨p', c', rfl, hO', hg⟩
  exact ⟨p', c', rfl, Own.of hO', Tch.of_own hR (by simpa using hg), fun k t cs hb hf => hR.far hc0 (by simpa using hg) hb hf⟩
theorem takeOJ_any (l : List JobD) (s : ByteArray) (base : Nat) (p : Option Addr) (c : Nat) (w : World) (hO : Own w base 31 5 p c (l.map rowJ)) (hs : Sorted JobD.name l) (hl : l.length ≤ 1000) :
  Calls Tryz.prog 42 #[.slice p l.length c, .string s, .func (.func 30) #[] #[]] w fun e w' =>
   ∃ p' c', e = .returned (.tuple #[.slice p' (takeL JobD.name l s).length c', .bool (hasL JobD.name l s)]) ∧ Own w' base 31 5 p' c' ((takeL JobD.name l s).map rowJ) ∧ Tch base 31 w w' := by
 rcases hO.toR with ⟨h0, h1⟩ | hR
 ·have hl0 : l = [] := by simpa using h0
  subst hl0 h1
  have HP := Lib.hid (placeJ_any s p 0 [] w Elts.nil_ .nil (by simp))
  have hh : hasL JobD.name ([] : List JobD) s = false := rfl
  have ht : takeL JobD.name ([] : List JobD) s = [] := rfl
  clear hO hs
  go_enter Tryz.func42, Tryz.ntmps42
  go_wp2_with fail
  refine HP.out.mono ?_
  rintro e w2 ⟨rfl, hb2⟩
  rw [hh]
  go_wp2_with fail
  go_ret2
  exact ⟨p, 0, by rw [ht]; rfl, by rw [ht]; exact Own.nil_ _ _ _ _ _, Tch.new hb2⟩
 ·refine (takeJ_any l s base p c w hR hs hl).mono ?_
  rintro e w' ⟨p', c', rfl, hO', hg⟩
  exact ⟨p', c', rfl, Own.of hO', Tch.of_own hR (by simpa using hg)⟩
end Go.Proofs.YtaioadbenigdpaaGreatDoor
