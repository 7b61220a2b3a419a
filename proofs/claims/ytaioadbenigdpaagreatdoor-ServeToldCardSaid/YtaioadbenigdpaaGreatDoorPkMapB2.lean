/-
  Several texts in one: SrtO, SrtJ, SrtN, SrtL.
-/
import Derived.Test.YtaioadbenigdpaaGreatDoorPkMapA2
import Derived.Test.YtaioadbenigdpaaGreatDoorPkOwn
import Derived.Test.YtaioadbenigdpaaGreatDoorPkMapB
import Derived.Shelf.SlSortCmp.NoneTotal
import Derived.Sort.OwnSorted
import Derived.Test.YtaioadbenigdpaaGreatDoorSort
set_option linter.unusedVariables false
set_option linter.unusedSimpArgs false
set_option maxHeartbeats 16000000
set_option maxRecDepth 100000
namespace Go.Proofs.YtaioadbenigdpaaGreatDoor
open Go.RowKit Go.Maps Go.Sort Go.Shelf
section
variable {α : Type} [Inhabited α]
theorem flat_get (enc : α → List Value) (k : Nat) (hk : ∀ x, (enc x).length = k) : ∀ (l : List α) (t : Nat), t < l.length * k → (l.map enc).flatten[t]? = some ((enc l[t / k]!)[t % k]!)
 | [], t, h => by simp at h
 | x :: r, t, h => by
  have k0 : 0 < k := Nat.pos_of_ne_zero (fun e => by subst e; simp at h)
  rw [List.map_cons, List.flatten_cons]
  by_cases ht : t < k
  ·rw [List.getElem?_append_left (by rw [hk]; exact ht), Nat.div_eq_of_lt ht, Nat.mod_eq_of_lt ht]
   have : t < (enc x).length := by rw [hk]; exact ht
   simp [this]
  ·rw [List.getElem?_append_right (by rw [hk]; omega), hk, flat_get enc k hk r (t - k) (by simp only [List.length_cons, Nat.succ_mul] at h; omega)]
   have h1 : t / k = (t - k) / k + 1 := by rw [Nat.div_eq_sub_div k0 (by omega)]
   have h2 : t % k = (t - k) % k := Nat.mod_eq_sub_mod (by omega)
   rw [h1, h2]
   rfl
omit [Inhabited α] in
theorem flatten_len (enc : α → List Value) (k : Nat) (hk : ∀ x, (enc x).length = k) (l : List α) : (l.map enc).flatten.length = l.length * k := by
 induction l with
 | nil => simp
 | cons x r ih => rw [List.map_cons, List.flatten_cons, List.length_append, ih, hk, List.length_cons, Nat.succ_mul]; omega
theorem flatK_list (enc : α → List Value) (k : Nat) (hk : ∀ x, (enc x).length = k) (l : List α) : (flatK enc k l.toArray).toList = (l.map enc).flatten := by
 apply List.ext_getElem?
 intro t
 by_cases h : t < l.length * k
 ·rw [flat_get enc k hk l t h, Array.getElem?_toList, Array.getElem?_eq_getElem (by simpa using h)]
  have := get_flatK enc k l.toArray t (by simpa using h)
  rw [getElem!_pos _ t (by simpa using h)] at this
  rw [this]
  simp
 ·rw [List.getElem?_eq_none (by simp; omega), List.getElem?_eq_none (by rw [flatten_len enc k hk]; omega)]
theorem holdsK_of_block {w : World} {g k : Nat} {cur : Array Value} {e : TypeId} {fr : Nat × Nat} (hfr : fr = (0, 0)) (enc : α → List Value) (hk : ∀ x, (enc x).length = k) {l : List α} (hb : w.heap[g]? = some (.cells cur e fr)) (ht : cur.toList.take (l.length * k) = (l.map enc).flatten) :
  HoldsK enc k w g 0 l.toArray := by
 subst hfr
 intro j hj
 have hj' : j < l.length * k := by simpa using hj
 refine ⟨?_, by simp [World.frozen?, hb]⟩
 have h1 : (cur.toList.take (l.length * k))[j]? = (l.map enc).flatten[j]? := by rw [ht]
 rw [List.getElem?_take_of_lt hj'] at h1
 simp only [World.cell?, hb, Nat.zero_add]
 simp only [Option.isSome_none, Bool.false_eq_true, if_false]
 rw [← Array.getElem?_toList, h1, flat_get enc k hk l j hj']
 have := get_flatK enc k l.toArray j (by simpa using hj')
 rw [this]
 simp
theorem heap_sortedK {w : World} {g n k : Nat} {os : Array Obj} {cur : Array Value} {e : TypeId} {fr : Nat × Nat} (enc : α → List Value) (d : Array α) (hb : w.heap[g]? = some (.cells cur e fr)) :
  (sortWorldK enc k w g 0 n d os).heap[g]? = some (.cells (putCells id 0 (flatK enc k d) cur) e fr) := by
 have hg : g < w.heap.size := (Array.getElem?_eq_some_iff.1 hb).1
 unfold sortWorldK putRowK
 rw [heap_grow_old _ _ (by simpa using hg)]
 simp [putRow, mapBlock, Sort.ahead, Array.getElem?_modify, hb, onCells]
theorem grownBy_sortedK {w : World} {g n k : Nat} {os : Array Obj} (enc : α → List Value) (d : Array α) : w.grownBy (sortWorldK enc k w g 0 n d os) (some g) := by
 refine ⟨rfl, rfl, rfl, by simp [sortWorldK, putRowK], fun j hk hne => ?_⟩
 unfold sortWorldK putRowK
 rw [heap_grow_old _ _ (by simpa using hk)]
 have : g ≠ j := fun e => hne (by rw [e])
 simp [putRow, mapBlock, Sort.ahead, Array.getElem?_modify, this]
theorem take_putCellsK (cur : Array Value) (F : Array Value) (h : F.size ≤ cur.size) : (putCells id 0 F cur).toList.take F.size = F.toList := by
 apply List.ext_getElem?
 intro j
 by_cases hj : j < F.size
 ·rw [List.getElem?_take_of_lt hj, Array.getElem?_toList]
  simp [putCells, hj, show j < cur.size by omega]
 ·rw [List.getElem?_take_eq_none (by omega), List.getElem?_eq_none (by simp; omega)]
theorem ownsRow_sortedK {w : World} {base g cap n k : Nat} {e : TypeId} {os : Array Obj} {cur : Array Value} (enc : α → List Value) (hk : ∀ x, (enc x).length = k) {ss ts : List α} (hl : ts.length = ss.length) (hbase : base ≤ g) (hb : w.heap[g]? = some (.cells cur e (0, 0)))
  (h1 : ss.length ≤ cap) (h2 : cap ≤ maxLen) (h3 : cur.size = cap * k) :
  (sortWorldK enc k w g 0 n ts.toArray os).ownsRow base e k (.slice (some ⟨g, 0, none⟩) ss.length cap) ss.length (ts.map enc).flatten := by
 have hle : ss.length * k ≤ cap * k := Nat.mul_le_mul_right k h1
 refine ⟨?_, .inr ⟨g, cap, _, rfl, hbase, heap_sortedK enc _ hb, h1, h2, by simp [putCells, h3], ?_⟩⟩
 ·rw [flatten_len enc k hk, hl]
 ·have := take_putCellsK cur (flatK enc k ts.toArray) (by simp [hl]; omega)
  rw [size_flatK, flatK_list enc k hk] at this
  simpa [hl] using this
end
theorem perm_of_in {α : Type} [Inhabited α] {d d' : Array α} (h : PermIn 0 d.size d d') : d'.toList.Perm d.toList := by
 obtain ⟨h1, _, h3⟩ := h
 have e1 : d.extract 0 d.size = d := by simp
 have e2 : d'.extract 0 d.size = d' := by rw [← h1]; simp
 rwa [e1, e2] at h3
theorem sorted_of_in {α : Type} [Inhabited α] {lt : α → α → Bool} {d' : Array α} (h : SortedIn lt 0 d'.size d') : d'.toList.Pairwise fun x y => lt y x = false := by
 rw [List.pairwise_iff_getElem]
 intro i j hi hj hij
 have := h i j (Nat.zero_le _) hij (by simpa using hj)
 rw [getElem!_pos d' i (by simpa using hi), getElem!_pos d' j (by simpa using hj)] at this
 simpa using this
open Go.RowKit Go.Maps Go.Sort Go.Shelf
def cfJ (x y : JobD) : Int := cmpB x.name y.name
theorem cfJ_lt (x y : JobD) : ltOf cfJ x y = ltS x.name y.name := cmpB_lt _ _
theorem swoJ : SWO (ltOf cfJ) where
 irrefl x := by rw [cfJ_lt]; exact ltS_irrefl _
 trans x y z h1 h2 := by rw [cfJ_lt] at *; exact ltS_trans h1 h2
 ntrans x y z h1 h2 := by
  rw [cfJ_lt] at *
  rcases ltS_total x.name y.name with h | h | h
  ·rw [h] at h1; cases h1
  ·rw [h]; exact h2
  ·rcases ltS_total y.name z.name with h' | h' | h'
   ·rw [h'] at h2; cases h2
   ·rw [← h']; exact h1
   ·cases hc : ltS x.name z.name
    ·rfl
    ·have := ltS_trans hc h'
     rw [this] at h1; cases h1
theorem rowJ_len (x : JobD) : (rowJ x).length = 5 := rfl
theorem rowJ_one (x : JobD) : ∀ v ∈ rowJ x, v.oneCell' = true := by
 intro v hv
 simp [rowJ] at hv
 rcases hv with rfl | rfl | rfl | rfl | rfl <;> rfl
instance : Inhabited JobD := ⟨⟨ByteArray.empty, 0, 0, 0, ByteArray.empty⟩⟩
theorem sortJ_any (gk g cap : Nat) (ss : List JobD) (cur : Array Value) (w : World) (hk : w.cell? ⟨gk, 0, none⟩ = some (.func (.func 30) #[] #[])) (hlt : gk < w.heap.size) (hne : gk ≠ g)
  (hb : w.heap[g]? = some (.cells cur 31 (0, 0))) (ht : cur.toList.take (ss.length * 5) = (ss.map rowJ).flatten) (hl : ss.length ≤ 1000000000) :
  Calls Tryz.prog 103 #[.slice (some ⟨g, 0, none⟩) ss.length cap, .func (.func 70) #[] #[.pointer (some ⟨gk, 0, none⟩)]] w fun e w' =>
   e = .returned (.tuple #[]) ∧ ∃ (ts : List JobD) (n : Nat) (os : Array Obj), ts.Perm ss ∧ ts.Pairwise (fun x y => ltS y.name x.name = false) ∧ w' = sortWorldK rowJ 5 w g 0 n ts.toArray os := by
 have hglt : g < w.heap.size := (Array.getElem?_eq_some_iff.1 hb).1
 have hc : CmpLays Tryz.prog 70 #[.pointer (some ⟨gk, 0, none⟩)] rowJ 5 cfJ g 0 ss.toArray.size w := fun m os dk hs x y => by
  have hk' : (sortWorldK rowJ 5 w g 0 m dk os).cell? ⟨gk, 0, none⟩ = some (.func (.func 30) #[] #[]) := by
   rw [cell?_sortWorldK_other rowJ 5 w g 0 m dk os ⟨gk, 0, none⟩ hne hlt]; exact hk
  have hlt' : gk < (sortWorldK rowJ 5 w g 0 m dk os).heap.size := by
   have := (grownBy_sortedK (w := w) (g := g) (n := m) (k := 5) (os := os) rowJ dk).size
   omega
  exact (cmpJ_any gk x y _ hk' hlt').mono fun e w' h => ⟨h.1, Grw.is h.2⟩
 have hH := holdsK_of_block rfl rowJ rowJ_len hb ht
 have h := AnyQ.slices_SortFunc Tryz.laysJsort 5 (fun w => by kernel_rfl) (fun w => by kernel_rfl) rowJ rowJ_len rowJ_one cfJ swoJ 70 #[.pointer (some ⟨gk, 0, none⟩)] g 0 cap ss.toArray w (fun args w => by kernel_rfl) hc hH hglt (by simp; omega)
 refine Calls.mono h ?_
 rintro e w' ⟨rfl, d', n, os, hp, hs, rfl⟩
 have hsz : d'.size = ss.toArray.size := hp.1
 rw [← hsz] at hs
 refine ⟨rfl, d'.toList, n, os, by simpa using perm_of_in hp, ?_, rfl⟩
 exact (sorted_of_in hs).imp (fun h => by rwa [cfJ_lt] at h)
theorem sortJ_none (gk cap : Nat) (p : Option Addr) (w : World) :
  Calls Tryz.prog 103 #[.slice p 0 cap, .func (.func 70) #[] #[.pointer (some ⟨gk, 0, none⟩)]] w fun e w' => e = .returned (.tuple #[]) ∧ w' = w :=
 AnyF.slices_SortFunc_none Tryz.laysJsort p cap _ w
theorem sortedJ_any (gk Bm b nn : Nat) (f : List UInt8 → Option JobD) (w : World) (hk : w.cell? ⟨gk, 0, none⟩ = some (.func (.func 30) #[] #[])) (hlt : gk < w.heap.size) (hBm : Bm < w.heap.size) (hm : w.cell? ⟨Bm, 0, none⟩ = some (.map (some b))) (hown : OM Tryz.prog 9 w b nn (fun k => (f k).map fun x => Value.agg #[.string x.name, .int .i64 x.prio, .int .i64 x.need, .int .i64 x.tries, .string x.tag])) (hnn : nn ≤ 1000000000) :
  Calls Tryz.prog 68 #[.func (.func 104) #[] #[.pointer (some ⟨Bm, 0, none⟩)], .func (.func 70) #[] #[.pointer (some ⟨gk, 0, none⟩)]] w fun e w' =>
   ∃ (v : Value) (ss ts : List JobD), e = .returned v ∧ AllV f ss ∧ ts.Perm ss ∧ ts.Pairwise (fun x y => ltS y.name x.name = false) ∧ w'.ownsRow w.heap.size 31 5 v ts.length (ts.map rowJ).flatten ∧ Below w.heap.size w w' := by
 have HC := Lib.hid (collectJ_any Bm b nn f w hBm hm hown hnn)
 clear hm hown
 go_enter Tryz.func68, Tryz.ntmps68
 go_wp2_with fail
 refine HC.out.mono ?_
 rintro e w1 ⟨v, ss, rfl, ⟨hA, hlen⟩, hrow, hnil, hb1⟩
 have hk1 := (hb1.cell (p := ⟨gk, 0, none⟩) hlt).trans hk
 have hlt1 : gk < w1.heap.size := Nat.lt_of_lt_of_le hlt hb1.size
 rcases hrow.2 with ⟨rfl, hz⟩ | ⟨g, cap, cur, rfl, hbase, hgb, r1, r2, r3, r4⟩
 ·have hss : ss = [] := List.eq_nil_of_length_eq_zero hz
  subst hss
  go_wp2_with (fail)
  refine (sortJ_none gk 0 none w1).mono ?_
  rintro e w2 ⟨rfl, rfl⟩
  go_wp2_with (fail)
  go_ret
  exact ⟨_, [], [], rfl, hA, .refl _, .nil, hrow, hb1⟩
 ·have HS := Lib.hid (sortJ_any gk g cap ss cur w1 hk1 hlt1 (by omega) hgb r4 (by omega))
  go_wp2_with (fail)
  refine HS.out.mono ?_
  rintro e w2 ⟨rfl, ts, n, os, hp, hs, hw2⟩
  have ho2 : w2.ownsRow w.heap.size 31 5 (.slice (some ⟨g, 0, none⟩) ss.length cap) ss.length (ts.map rowJ).flatten := by rw [hw2]; exact ownsRow_sortedK rowJ rowJ_len hp.length_eq hbase hgb r1 r2 r3
  have hg2 : w1.grownBy w2 (some g) := by rw [hw2]; exact grownBy_sortedK _ _
  clear hw2
  go_wp2_with (fail)
  go_ret
  exact ⟨_, ss, ts, rfl, hA, hp, hs, by rw [hp.length_eq]; exact ho2, hb1.grown hg2 hb1.size (fun j hj => by cases hj; exact hbase)⟩
open Go.RowKit Go.Maps Go.Sort Go.Shelf
def cfN (x y : NodeD) : Int := cmpB x.name y.name
theorem cfN_lt (x y : NodeD) : ltOf cfN x y = ltS x.name y.name := cmpB_lt _ _
theorem swoN : SWO (ltOf cfN) where
 irrefl x := by rw [cfN_lt]; exact ltS_irrefl _
 trans x y z h1 h2 := by rw [cfN_lt] at *; exact ltS_trans h1 h2
 ntrans x y z h1 h2 := by
  rw [cfN_lt] at *
  rcases ltS_total x.name y.name with h | h | h
  ·rw [h] at h1; cases h1
  ·rw [h]; exact h2
  ·rcases ltS_total y.name z.name with h' | h' | h'
   ·rw [h'] at h2; cases h2
   ·rw [← h']; exact h1
   ·cases hc : ltS x.name z.name
    ·rfl
    ·have := ltS_trans hc h'
     rw [this] at h1; cases h1
theorem rowN_len (x : NodeD) : (rowN x).length = 3 := rfl
theorem rowN_one (x : NodeD) : ∀ v ∈ rowN x, v.oneCell' = true := by
 intro v hv
 simp [rowN] at hv
 rcases hv with rfl | rfl | rfl <;> rfl
instance : Inhabited NodeD := ⟨⟨ByteArray.empty, 0, ByteArray.empty⟩⟩
theorem sortN_any (gk g cap : Nat) (ss : List NodeD) (cur : Array Value) (w : World) (hk : w.cell? ⟨gk, 0, none⟩ = some (.func (.func 32) #[] #[])) (hlt : gk < w.heap.size) (hne : gk ≠ g)
  (hb : w.heap[g]? = some (.cells cur 34 (0, 0))) (ht : cur.toList.take (ss.length * 3) = (ss.map rowN).flatten) (hl : ss.length ≤ 1000000000) :
  Calls Tryz.prog 107 #[.slice (some ⟨g, 0, none⟩) ss.length cap, .func (.func 74) #[] #[.pointer (some ⟨gk, 0, none⟩)]] w fun e w' =>
   e = .returned (.tuple #[]) ∧ ∃ (ts : List NodeD) (n : Nat) (os : Array Obj), ts.Perm ss ∧ ts.Pairwise (fun x y => ltS y.name x.name = false) ∧ w' = sortWorldK rowN 3 w g 0 n ts.toArray os := by
 have hglt : g < w.heap.size := (Array.getElem?_eq_some_iff.1 hb).1
 have hc : CmpLays Tryz.prog 74 #[.pointer (some ⟨gk, 0, none⟩)] rowN 3 cfN g 0 ss.toArray.size w := fun m os dk hs x y => by
  have hk' : (sortWorldK rowN 3 w g 0 m dk os).cell? ⟨gk, 0, none⟩ = some (.func (.func 32) #[] #[]) := by
   rw [cell?_sortWorldK_other rowN 3 w g 0 m dk os ⟨gk, 0, none⟩ hne hlt]; exact hk
  have hlt' : gk < (sortWorldK rowN 3 w g 0 m dk os).heap.size := by
   have := (grownBy_sortedK (w := w) (g := g) (n := m) (k := 3) (os := os) rowN dk).size
   omega
  exact (cmpN_any gk x y _ hk' hlt').mono fun e w' h => ⟨h.1, Grw.is h.2⟩
 have hH := holdsK_of_block rfl rowN rowN_len hb ht
 have h := AnyQ.slices_SortFunc Tryz.laysNsort 3 (fun w => by kernel_rfl) (fun w => by kernel_rfl) rowN rowN_len rowN_one cfN swoN 74 #[.pointer (some ⟨gk, 0, none⟩)] g 0 cap ss.toArray w (fun args w => by kernel_rfl) hc hH hglt (by simp; omega)
 refine Calls.mono h ?_
 rintro e w' ⟨rfl, d', n, os, hp, hs, rfl⟩
 have hsz : d'.size = ss.toArray.size := hp.1
 rw [← hsz] at hs
 refine ⟨rfl, d'.toList, n, os, by simpa using perm_of_in hp, ?_, rfl⟩
 exact (sorted_of_in hs).imp (fun h => by rwa [cfN_lt] at h)
theorem sortN_none (gk cap : Nat) (p : Option Addr) (w : World) :
  Calls Tryz.prog 107 #[.slice p 0 cap, .func (.func 74) #[] #[.pointer (some ⟨gk, 0, none⟩)]] w fun e w' => e = .returned (.tuple #[]) ∧ w' = w :=
 AnyF.slices_SortFunc_none Tryz.laysNsort p cap _ w
theorem sortedN_any (gk Bm b nn : Nat) (f : List UInt8 → Option NodeD) (w : World) (hk : w.cell? ⟨gk, 0, none⟩ = some (.func (.func 32) #[] #[])) (hlt : gk < w.heap.size) (hBm : Bm < w.heap.size) (hm : w.cell? ⟨Bm, 0, none⟩ = some (.map (some b))) (hown : OM Tryz.prog 9 w b nn (fun k => (f k).map fun x => Value.agg #[.string x.name, .int .i64 x.room, .string x.zone])) (hnn : nn ≤ 1000000000) :
  Calls Tryz.prog 72 #[.func (.func 108) #[] #[.pointer (some ⟨Bm, 0, none⟩)], .func (.func 74) #[] #[.pointer (some ⟨gk, 0, none⟩)]] w fun e w' =>
   ∃ (v : Value) (ss ts : List NodeD), e = .returned v ∧ AllV f ss ∧ ts.Perm ss ∧ ts.Pairwise (fun x y => ltS y.name x.name = false) ∧ w'.ownsRow w.heap.size 34 3 v ts.length (ts.map rowN).flatten ∧ Below w.heap.size w w' := by
 have HC := Lib.hid (collectN_any Bm b nn f w hBm hm hown hnn)
 clear hm hown
 go_enter Tryz.func72, Tryz.ntmps72
 go_wp2_with fail
 refine HC.out.mono ?_
 rintro e w1 ⟨v, ss, rfl, ⟨hA, hlen⟩, hrow, hnil, hb1⟩
 have hk1 := (hb1.cell (p := ⟨gk, 0, none⟩) hlt).trans hk
 have hlt1 : gk < w1.heap.size := Nat.lt_of_lt_of_le hlt hb1.size
 rcases hrow.2 with ⟨rfl, hz⟩ | ⟨g, cap, cur, rfl, hbase, hgb, r1, r2, r3, r4⟩
 ·have hss : ss = [] := List.eq_nil_of_length_eq_zero hz
  subst hss
  go_wp2_with (fail)
  refine (sortN_none gk 0 none w1).mono ?_
  rintro e w2 ⟨rfl, rfl⟩
  go_wp2_with (fail)
  go_ret
  exact ⟨_, [], [], rfl, hA, .refl _, .nil, hrow, hb1⟩
 ·have HS := Lib.hid (sortN_any gk g cap ss cur w1 hk1 hlt1 (by omega) hgb r4 (by omega))
  go_wp2_with (fail)
  refine HS.out.mono ?_
  rintro e w2 ⟨rfl, ts, n, os, hp, hs, hw2⟩
  have ho2 : w2.ownsRow w.heap.size 34 3 (.slice (some ⟨g, 0, none⟩) ss.length cap) ss.length (ts.map rowN).flatten := by rw [hw2]; exact ownsRow_sortedK rowN rowN_len hp.length_eq hbase hgb r1 r2 r3
  have hg2 : w1.grownBy w2 (some g) := by rw [hw2]; exact grownBy_sortedK _ _
  clear hw2
  go_wp2_with (fail)
  go_ret
  exact ⟨_, ss, ts, rfl, hA, hp, hs, by rw [hp.length_eq]; exact ho2, hb1.grown hg2 hb1.size (fun j hj => by cases hj; exact hbase)⟩
open Go.RowKit Go.Maps Go.Sort Go.Shelf
def cfL (x y : LeaseD) : Int := cmpB x.job y.job
theorem cfL_lt (x y : LeaseD) : ltOf cfL x y = ltS x.job y.job := cmpB_lt _ _
theorem swoL : SWO (ltOf cfL) where
 irrefl x := by rw [cfL_lt]; exact ltS_irrefl _
 trans x y z h1 h2 := by rw [cfL_lt] at *; exact ltS_trans h1 h2
 ntrans x y z h1 h2 := by
  rw [cfL_lt] at *
  rcases ltS_total x.job y.job with h | h | h
  ·rw [h] at h1; cases h1
  ·rw [h]; exact h2
  ·rcases ltS_total y.job z.job with h' | h' | h'
   ·rw [h'] at h2; cases h2
   ·rw [← h']; exact h1
   ·cases hc : ltS x.job z.job
    ·rfl
    ·have := ltS_trans hc h'
     rw [this] at h1; cases h1
theorem rowL_len (x : LeaseD) : (rowL x).length = 3 := rfl
theorem rowL_one (x : LeaseD) : ∀ v ∈ rowL x, v.oneCell' = true := by
 intro v hv
 simp [rowL] at hv
 rcases hv with rfl | rfl | rfl <;> rfl
instance : Inhabited LeaseD := ⟨⟨ByteArray.empty, ByteArray.empty, 0⟩⟩
theorem sortL_any (gk g cap : Nat) (ss : List LeaseD) (cur : Array Value) (w : World) (hk : w.cell? ⟨gk, 0, none⟩ = some (.func (.func 34) #[] #[])) (hlt : gk < w.heap.size) (hne : gk ≠ g)
  (hb : w.heap[g]? = some (.cells cur 37 (0, 0))) (ht : cur.toList.take (ss.length * 3) = (ss.map rowL).flatten) (hl : ss.length ≤ 1000000000) :
  Calls Tryz.prog 110 #[.slice (some ⟨g, 0, none⟩) ss.length cap, .func (.func 77) #[] #[.pointer (some ⟨gk, 0, none⟩)]] w fun e w' =>
   e = .returned (.tuple #[]) ∧ ∃ (ts : List LeaseD) (n : Nat) (os : Array Obj), ts.Perm ss ∧ ts.Pairwise (fun x y => ltS y.job x.job = false) ∧ w' = sortWorldK rowL 3 w g 0 n ts.toArray os := by
 have hglt : g < w.heap.size := (Array.getElem?_eq_some_iff.1 hb).1
 have hc : CmpLays Tryz.prog 77 #[.pointer (some ⟨gk, 0, none⟩)] rowL 3 cfL g 0 ss.toArray.size w := fun m os dk hs x y => by
  have hk' : (sortWorldK rowL 3 w g 0 m dk os).cell? ⟨gk, 0, none⟩ = some (.func (.func 34) #[] #[]) := by
   rw [cell?_sortWorldK_other rowL 3 w g 0 m dk os ⟨gk, 0, none⟩ hne hlt]; exact hk
  have hlt' : gk < (sortWorldK rowL 3 w g 0 m dk os).heap.size := by
   have := (grownBy_sortedK (w := w) (g := g) (n := m) (k := 3) (os := os) rowL dk).size
   omega
  exact (cmpL_any gk x y _ hk' hlt').mono fun e w' h => ⟨h.1, Grw.is h.2⟩
 have hH := holdsK_of_block rfl rowL rowL_len hb ht
 have h := AnyQ.slices_SortFunc Tryz.laysLsort 3 (fun w => by kernel_rfl) (fun w => by kernel_rfl) rowL rowL_len rowL_one cfL swoL 77 #[.pointer (some ⟨gk, 0, none⟩)] g 0 cap ss.toArray w (fun args w => by kernel_rfl) hc hH hglt (by simp; omega)
 refine Calls.mono h ?_
 rintro e w' ⟨rfl, d', n, os, hp, hs, rfl⟩
 have hsz : d'.size = ss.toArray.size := hp.1
 rw [← hsz] at hs
 refine ⟨rfl, d'.toList, n, os, by simpa using perm_of_in hp, ?_, rfl⟩
 exact (sorted_of_in hs).imp (fun h => by rwa [cfL_lt] at h)
theorem sortL_none (gk cap : Nat) (p : Option Addr) (w : World) :
  Calls Tryz.prog 110 #[.slice p 0 cap, .func (.func 77) #[] #[.pointer (some ⟨gk, 0, none⟩)]] w fun e w' => e = .returned (.tuple #[]) ∧ w' = w :=
 AnyF.slices_SortFunc_none Tryz.laysLsort p cap _ w
theorem sortedL_any (gk Bm b nn : Nat) (f : List UInt8 → Option LeaseD) (w : World) (hk : w.cell? ⟨gk, 0, none⟩ = some (.func (.func 34) #[] #[])) (hlt : gk < w.heap.size) (hBm : Bm < w.heap.size) (hm : w.cell? ⟨Bm, 0, none⟩ = some (.map (some b))) (hown : OM Tryz.prog 9 w b nn (fun k => (f k).map fun x => Value.agg #[.string x.job, .string x.node, .int .i64 x.till])) (hnn : nn ≤ 1000000000) :
  Calls Tryz.prog 75 #[.func (.func 111) #[] #[.pointer (some ⟨Bm, 0, none⟩)], .func (.func 77) #[] #[.pointer (some ⟨gk, 0, none⟩)]] w fun e w' =>
   ∃ (v : Value) (ss ts : List LeaseD), e = .returned v ∧ AllV f ss ∧ ts.Perm ss ∧ ts.Pairwise (fun x y => ltS y.job x.job = false) ∧ w'.ownsRow w.heap.size 37 3 v ts.length (ts.map rowL).flatten ∧ Below w.heap.size w w' := by
 have HC := Lib.hid (collectL_any Bm b nn f w hBm hm hown hnn)
 clear hm hown
 go_enter Tryz.func75, Tryz.ntmps75
 go_wp2_with fail
 refine HC.out.mono ?_
 rintro e w1 ⟨v, ss, rfl, ⟨hA, hlen⟩, hrow, hnil, hb1⟩
 have hk1 := (hb1.cell (p := ⟨gk, 0, none⟩) hlt).trans hk
 have hlt1 : gk < w1.heap.size := Nat.lt_of_lt_of_le hlt hb1.size
 rcases hrow.2 with ⟨rfl, hz⟩ | ⟨g, cap, cur, rfl, hbase, hgb, r1, r2, r3, r4⟩
 ·have hss : ss = [] := List.eq_nil_of_length_eq_zero hz
  subst hss
  go_wp2_with (fail)
  refine (sortL_none gk 0 none w1).mono ?_
  rintro e w2 ⟨rfl, rfl⟩
  go_wp2_with (fail)
  go_ret
  exact ⟨_, [], [], rfl, hA, .refl _, .nil, hrow, hb1⟩
 ·have HS := Lib.hid (sortL_any gk g cap ss cur w1 hk1 hlt1 (by omega) hgb r4 (by omega))
  go_wp2_with (fail)
  refine HS.out.mono ?_
  rintro e w2 ⟨rfl, ts, n, os, hp, hs, hw2⟩
  have ho2 : w2.ownsRow w.heap.size 37 3 (.slice (some ⟨g, 0, none⟩) ss.length cap) ss.length (ts.map rowL).flatten := by rw [hw2]; exact ownsRow_sortedK rowL rowL_len hp.length_eq hbase hgb r1 r2 r3
  have hg2 : w1.grownBy w2 (some g) := by rw [hw2]; exact grownBy_sortedK _ _
  clear hw2
  go_wp2_with (fail)
  go_ret
  exact ⟨_, ss, ts, rfl, hA, hp, hs, by rw [hp.length_eq]; exact ho2, hb1.grown hg2 hb1.size (fun j hj => by cases hj; exact hbase)⟩
end Go.Proofs.YtaioadbenigdpaaGreatDoor
