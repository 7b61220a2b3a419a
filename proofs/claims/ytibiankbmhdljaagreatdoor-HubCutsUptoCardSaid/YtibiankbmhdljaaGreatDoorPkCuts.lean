/-
  Several texts in one: CutsP, CutWh, ReqOu.
-/
import Derived.Test.YtibiankbmhdljaaGreatDoorPkPlay
set_option linter.all false
set_option maxHeartbeats 16000000
set_option maxRecDepth 100000
namespace Go.Proofs.YtibiankbmhdljaaGreatDoor
open Go.Proofs.Tryz
def vxc (l : List ReqD) : List UInt8 := (l.map uq4).flatten
theorem wx8 {l : List ReqD} {n : Nat} {q : ReqD} (h : l[n]? = some q) : vxc (l.take (n + 1)) = vxc (l.take n) ++ uq4 q := by
 unfold vxc
 rw [List.take_add_one, h, Option.toList_some, List.map_append, List.flatten_append]
 simp
theorem vvm (l : List ReqD) : (vxc l).length <= l.length * 130 := by
 unfold vxc
 induction l with
 | nil => simp
 | cons q r ih =>
  have := ujo q
  rw [List.map_cons, List.flatten_cons, zrb, List.length_cons]
  omega
theorem wv1 {q : ReqD} (h : reqE q ≠ 0) : uq4 q = [] := by unfold uq4; rw [if_neg h]
def act3 (p : ByteArray) : ActD := ⟨3, p⟩
theorem act3_toP (p : ByteArray) : toP (act3 p) = ⟨some 3, p.data.toList⟩ := rfl
theorem wy5 (ps : List ByteArray) : uzq (ps.map act3) = ((ps.map (·.data.toList)).flatten).length := by
 unfold uzq
 induction ps with
 | nil => rfl
 | cons p r ih =>
  rw [List.map_cons, List.map_cons, List.sum_cons, List.map_cons, List.flatten_cons, zrb, ih]
  simp [act3]
theorem xqk (s : St) {ps : List ByteArray} {al : List UInt8} (hn : ps ≠ []) (hf : (ps.map (·.data.toList)).flatten = al) (i : Nat) :
  playF s ((ps.map act3).map toP) i = playF s (([act3 (bstr al)] : List ActD).map toP) i := by
 have h1 : (ps.map act3).map toP = byK 3 (ps.map (·.data.toList)) := by
  unfold byK
  rw [List.map_map, List.map_map]
  rfl
 have h2 : ([act3 (bstr al)] : List ActD).map toP = byK 3 [al] := by
  unfold byK
  simp only [List.map_cons, List.map_nil, act3_toP, uqu]
 rw [h1, h2]
 cases ps with
 | nil => exact absurd rfl hn
 | cons p r =>
  rw [List.map_cons] at hf ⊢
  rw [xzg]
  rw [List.flatten_cons] at hf
  rw [hf]
def strs8 (o : Nat -> List Fr) : List ByteArray := [bstr (encs (o 0)), bstr (encs (o 1)), bstr (encs (o 2)), bstr (encs (o 3)), bstr (encs (o 4)), bstr (encs (o 5)), bstr (encs (o 6)), bstr (encs (o 7))]
theorem wjw {o o' : Nat -> List Fr} (h : ∀ i, o i = o' i) : strs8 o = strs8 o' := by unfold strs8; simp only [h]
theorem wq0 (o : Nat -> List Fr) : (outA o).toList = ((strs8 o).map rowS).flatten := rfl
theorem act_info : (prog.info? 75).map (fun i => (i.zero, i.size, i.bytes)) = some (some (.agg #[.int .i64 0, .string .empty]), 2, 24) := by kernel_rfl
theorem wx3 (l : List ActD) : ∀ r ∈ l.map rowA, r.length = 2 := by
 intro r hr
 obtain ⟨x, _, rfl⟩ := List.mem_map.1 hr
 rfl
open Go.RowKit
def wyz (w : World) (s : ByteArray) (n : Nat) (e : Ending) (w' : World) : Prop :=
 ∃ q c, ∃ ps : List ByteArray, e = .returned (.slice q ps.length c) ∧ OwnS w' w.heap.size (.slice q ps.length c) ps ∧ (ps.map (·.data.toList)).flatten = s.data.toList ∧ ps.length = n + 1 ∧ Below w.heap.size w w'
theorem xqj (s : ByteArray) (i : Nat) : (s.extract 0 i).data.toList ++ (s.extract i s.size).data.toList = s.data.toList := by
 rw [ByteArray.data_extract, ByteArray.data_extract, Array.toList_extract, Array.toList_extract]
 simp only [List.extract_eq_take_drop, List.drop_zero, Nat.sub_zero]
 rw [List.take_of_length_le (l := List.drop i s.data.toList) (by rw [List.length_drop]; simp), List.take_append_drop]
theorem cut_any (s : ByteArray) (p : Option Addr) (c : Nat) (zs : List Int) (w : World) (hel : Elts w w.heap.size 1 p (zs.map rowI)) (hz : ∀ z ∈ zs, okI z) (hs : s.size <= 1099511627776) (hl : zs.length <= 1099511627776) :
  Calls prog 24 #[.string s, .slice p zs.length c] w fun e w' => wyz w s zs.length e w' := by
 have HZ := zrj hz
 clear hz
 go_enter func24, ntmps24
 go_wp2_with fail
 go_loopw [0, 5, 11] (fun t v i wr => ∃ (k : Nat) (r : ByteArray) (ps : List ByteArray), k <= zs.length ∧ i = .int .i64 k ∧ t = .string r ∧ OwnS wr w.heap.size v ps ∧ Hid ((ps.map (·.data.toList)).flatten ++ r.data.toList = s.data.toList) ∧ ps.length <= k ∧ k <= ps.length ∧ r.size <= s.size ∧ Below w.heap.size w wr) (fun _ _ i _ => zs.length - (intOf i).toNat)
 case atStart => exact ⟨0, s, [], Nat.zero_le _, rfl, rfl, World.ownsRow_nil _ _ _ _, by simp [Hid], by simp, by simp, by omega, zri _ _⟩
 case round =>
  obtain ⟨k, r, ps, hk, rfl, rfl, hown, HF, hp1, hp2, hr, hbr⟩ := hrel
  by_cases hlt : k < zs.length
  ·have hx : zs[k]? = some zs[k] := zrd hlt
   have hg := HZ.out zs[k] (List.getElem_mem hlt)
   generalize zs[k] = x at *
   obtain ⟨a, rfl, hab, c0⟩ := (hel.below hbr).cell1 hx
   obtain ⟨g1, g2⟩ := hg
   have r0 := Int.emod_nonneg x (show (r.size : Int) + 1 ≠ 0 by omega)
   have r1 := Int.emod_lt_of_pos x (show (0 : Int) < (r.size : Int) + 1 by omega)
   clear hx
   go_wp2_with fail
   refine (rest_any x ((r.size : Int) + 1) _ (by omega) (by omega)).mono ?_
   rintro e w3 ⟨rfl, rfl⟩
   generalize x % ((r.size : Int) + 1) = i at *
   obtain ⟨j, rfl⟩ := Int.eq_ofNat_of_zero_le r0
   have hj : (j : Int) <= (r.size : Int) := by omega
   have hsp := xqj r j
   have he1 : (r.extract j r.size).size <= r.size := by rw [ByteArray.size_extract]; omega
   have HSP := zrj hsp
   have ho5 := hown.alloc (.cells #[.string (r.extract 0 j)] 9)
   have hb5 := hbr.alloc hbr.size (.cells #[.string (r.extract 0 j)] 9)
   have hby := Blk.new wr 9 #[.string (r.extract 0 j)]
   clear hsp hown
   go_wp2_with (at_builtin; refine uwe rfl _ _ rfl w.heap.size _ ps rfl ho5 wr.heap.size (r.extract 0 j) rfl hby (by omega) hb5.size ?_)
   intro v5 w5 ho6 hb8
   have hb9 := hb5.trans hb8
   clear ho5 hby
   go_wp2_with fail
   go_roundw
   case rel =>
    refine ⟨k + 1, _, ps ++ [r.extract 0 j], by omega, by go_num, rfl, ho6, ?_, by simp; omega, by simp; omega, by omega, hb9⟩
    show _ = _
    rw [List.map_append, List.flatten_append, List.map_singleton, List.flatten_singleton, zrh, HSP.out]
    exact HF.out
   case measure => simp [intOf]; omega
  ·obtain rfl : k = zs.length := by omega
   have ho5 := hown.alloc (.cells #[.string r] 9)
   have hb5 := hbr.alloc hbr.size (.cells #[.string r] 9)
   have hby := Blk.new wr 9 #[.string r]
   go_wp2_with (at_builtin; refine uwe rfl _ _ rfl w.heap.size _ ps rfl ho5 wr.heap.size r rfl hby (by omega) hb5.size ?_)
   intro v5 w5 ho6 hb8
   have hb9 := hb5.trans hb8
   obtain ⟨q, c5, rfl⟩ := ho6.form
   clear ho5 hby
   go_wp2_with fail
   go_ret
   show wyz _ _ _ _ _
   refine ⟨q, c5, ps ++ [r], rfl, ho6, ?_, by simp; omega, hb9⟩
   rw [List.map_append, List.flatten_append, List.map_singleton, List.flatten_singleton]
   exact HF.out
open Go.ChangeShapes Go.WideShapes Go.Deep Go.Joins
section
variable {H : Type} {enc : TypeId × Value -> H} {w : World} {base : Nat} {spare : Nat -> Bool} {held : Bool}
theorem open_reqsU {v : Value} {d : DataW H} {ps : List MemPlace} {r : Reach} {b0 : Nat} (hv : Value.okWide prog w r b0 27 v) (h : DataW.Trod enc prog w base spare held 27 v d ps) :
  ∃ (p : Option Addr) (c : Nat) (l : List ReqD), v = .slice p l.length c ∧ Elts w w.heap.size 14 p (l.map rowQ) ∧ (∀ x ∈ l, okQ x) ∧ ((l = [] ∧ p = none ∧ c = 0 ∧ d = .nil) ∨ ∃ rest : List ReqD, d = .slice (l.map datQ) (rest.map datQ)) := by
 obtain ⟨p, c, l, rfl, hlc, hcm, hel, hok, hd⟩ := uyg rowQ datQ okQ 14 underlying27 (by kernel_rfl) (by decide) hv h (fun n cs d pl => vy6 n cs d pl)
 exact ⟨p, c, l, rfl, hel, hok, hd⟩
end
end Go.Proofs.YtibiankbmhdljaaGreatDoor
