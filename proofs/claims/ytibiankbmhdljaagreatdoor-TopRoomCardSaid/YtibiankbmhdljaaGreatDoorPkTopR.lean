/-
  Several texts in one: AtJ, AtN, RoomM.
-/
import Derived.Test.YtibiankbmhdljaaGreatDoorPkStateB
set_option linter.all false
set_option maxHeartbeats 16000000
set_option maxRecDepth 100000
namespace Go.Proofs.YtibiankbmhdljaaGreatDoor
open Go.Proofs.Tryz
open Go.RowKit
theorem atJ_any (p : Option Addr) (c : Nat) (l : List JobD) (nm : ByteArray) (w : World) (hel : Elts w w.heap.size 5 p (l.map rowJ)) (hl : l.length <= 4611686018427387904) :
  Calls prog 30 #[.slice p l.length c, .string nm] w fun e w' => e = .returned (.int .i64 (ixBy JobD.name l nm 0)) ∧ Below w.heap.size w w' := by
 go_enter func30, ntmps30
 go_wp2_with fail
 go_loopw [9] (fun i wr => ∃ k : Nat, k <= l.length ∧ i = .int .i64 k ∧ Below w.heap.size w wr ∧ Hid (ixBy JobD.name l nm 0 = ixBy JobD.name (l.drop k) nm k)) (fun i _ => l.length - (intOf i).toNat)
 case atStart => exact ⟨0, Nat.zero_le _, rfl, zri _ _, (show _ = _ from rfl)⟩
 case round =>
  obtain ⟨k, hk, rfl, hbr, HR⟩ := hrel
  by_cases hlt : k < l.length
  ·have hx : l[k]? = some l[k] := zrd hlt
   have hdr := uwz l k _ hx
   generalize l[k] = x at *
   obtain ⟨a, ha, hab, _, hat⟩ := (hel.below hbr).at_ (k := k) (r := rowJ x) (by rw [zrg, hx]; rfl)
   subst ha
   have hb5 := hbr.alloc hbr.size (.cells (rwJ x) 37)
   have HR0 := HR.out
   rw [hdr] at HR0
   rw [vkl] at HR0
   by_cases hq : JobD.name x = nm
   ·rw [if_pos hq] at HR0
    have hb : ((JobD.name x).toList == nm.toList) = true := by rw [hq]; simp
    have HF := zrj HR0
    clear HR0 HR hdr hx hq
    go_wp2_with (refine uqe rfl _ _ rfl (a.add (k * 5)) rfl (rlJ x) _ hat underlying37 rfl uqo ?_)
    go_ret
    exact ⟨by rw [HF.out]; rfl, hb5⟩
   ·rw [if_neg hq] at HR0
    have hb : ((JobD.name x).toList == nm.toList) = false := xqb hq
    have HF := zrj HR0
    clear HR0 HR hdr hx hq
    go_wp2_with (refine uqe rfl _ _ rfl (a.add (k * 5)) rfl (rlJ x) _ hat underlying37 rfl uqo ?_)
    go_roundw
    case rel => exact ⟨k + 1, by omega, by go_num, hb5, HF.out⟩
    case measure => simp [intOf]; omega
  ·obtain rfl : k = l.length := by omega
   have HR0 := HR.out
   rw [List.drop_length] at HR0
   have HF := zrj HR0
   clear HR0 HR
   go_wp2_with fail
   go_ret
   exact ⟨by rw [HF.out]; rfl, hbr⟩
theorem atN_any (p : Option Addr) (c : Nat) (l : List NodeD) (nm : ByteArray) (w : World) (hel : Elts w w.heap.size 3 p (l.map rowN)) (hl : l.length <= 4611686018427387904) :
  Calls prog 31 #[.slice p l.length c, .string nm] w fun e w' => e = .returned (.int .i64 (ixBy NodeD.name l nm 0)) ∧ Below w.heap.size w w' := by
 go_enter func31, ntmps31
 go_wp2_with fail
 go_loopw [9] (fun i wr => ∃ k : Nat, k <= l.length ∧ i = .int .i64 k ∧ Below w.heap.size w wr ∧ Hid (ixBy NodeD.name l nm 0 = ixBy NodeD.name (l.drop k) nm k)) (fun i _ => l.length - (intOf i).toNat)
 case atStart => exact ⟨0, Nat.zero_le _, rfl, zri _ _, (show _ = _ from rfl)⟩
 case round =>
  obtain ⟨k, hk, rfl, hbr, HR⟩ := hrel
  by_cases hlt : k < l.length
  ·have hx : l[k]? = some l[k] := zrd hlt
   have hdr := uwz l k _ hx
   generalize l[k] = x at *
   obtain ⟨a, ha, hab, _, hat⟩ := (hel.below hbr).at_ (k := k) (r := rowN x) (by rw [zrg, hx]; rfl)
   subst ha
   have hb5 := hbr.alloc hbr.size (.cells (rwN x) 39)
   have HR0 := HR.out
   rw [hdr] at HR0
   rw [vkl] at HR0
   by_cases hq : NodeD.name x = nm
   ·rw [if_pos hq] at HR0
    have hb : ((NodeD.name x).toList == nm.toList) = true := by rw [hq]; simp
    have HF := zrj HR0
    clear HR0 HR hdr hx hq
    go_wp2_with (refine uqe rfl _ _ rfl (a.add (k * 3)) rfl (rlN x) _ hat underlying39 rfl uqm ?_)
    go_ret
    exact ⟨by rw [HF.out]; rfl, hb5⟩
   ·rw [if_neg hq] at HR0
    have hb : ((NodeD.name x).toList == nm.toList) = false := xqb hq
    have HF := zrj HR0
    clear HR0 HR hdr hx hq
    go_wp2_with (refine uqe rfl _ _ rfl (a.add (k * 3)) rfl (rlN x) _ hat underlying39 rfl uqm ?_)
    go_roundw
    case rel => exact ⟨k + 1, by omega, by go_num, hb5, HF.out⟩
    case measure => simp [intOf]; omega
  ·obtain rfl : k = l.length := by omega
   have HR0 := HR.out
   rw [List.drop_length] at HR0
   have HF := zrj HR0
   clear HR0 HR
   go_wp2_with fail
   go_ret
   exact ⟨by rw [HF.out]; rfl, hbr⟩
theorem vkm {α : Type} (key : α -> ByteArray) : ∀ (l : List α) (nm : ByteArray) (i0 : Nat) (x : α), (l.find? fun y => decide (key y = nm)) = some x -> ∃ i : Nat, ixBy key l nm i0 = ((i0 + i : Nat) : Int) ∧ l[i]? = some x
 | [], _, _, _, h => by cases h
 | y :: r, nm, i0, x, h => by
  rw [vkl]
  by_cases hy : key y = nm
  ·rw [List.find?_cons_of_pos (by simpa using hy)] at h
   injection h with h
   subst h
   exact ⟨0, by rw [if_pos hy]; rfl, rfl⟩
  ·rw [List.find?_cons_of_neg (by simpa using hy)] at h
   obtain ⟨i, h1, h2⟩ := vkm key r nm (i0 + 1) x h
   exact ⟨i + 1, by rw [if_neg hy, h1]; congr 1; omega, h2⟩
theorem wwz {jobs : List JobD} {nodes : List NodeD} {l : uqd} (h : uzf jobs nodes l = 0) : (∃ j, jobAt jobs l.job = some j) ∧ ∃ n, uxt nodes l.node = some n := by
 unfold uzf at h
 cases hj : jobAt jobs l.job with
 | none => rw [hj] at h; simp at h
 | some j =>
  cases hn : uxt nodes l.node with
  | none => rw [hj, hn] at h; simp at h
  | some n => exact ⟨⟨j, rfl⟩, ⟨n, rfl⟩⟩
theorem lease_ix {s : St} (F : Fine s) {l : uqd} (hl : l ∈ s.leases) : (∃ i j, ixBy JobD.name s.jobs l.job 0 = ((i : Nat) : Int) ∧ s.jobs[i]? = some j ∧ j.need = uxd s.jobs l.job) ∧ ¬ ixBy NodeD.name s.nodes l.node 0 < 0 := by
 obtain ⟨⟨j, hj⟩, ⟨n, hn⟩⟩ := wwz (F.l l hl)
 obtain ⟨i, h1, h2⟩ := vkm JobD.name s.jobs l.job 0 j hj
 obtain ⟨i', h3, _⟩ := vkm NodeD.name s.nodes l.node 0 n hn
 refine ⟨⟨i, j, by rw [h1, Nat.zero_add], h2, ?_⟩, by rw [h3]; omega⟩
 unfold uxd
 rw [hj]
 rfl
theorem vve (jobs : List JobD) (nm : ByteArray) : ∀ (ls : List uqd) (l : uqd), uq7 jobs nm (ls ++ [l]) = uq7 jobs nm ls + (if l.node = nm then uxd jobs l.job else 0)
 | [], l => by simp [uq7]
 | x :: r, l => by
  show (if x.node = nm then uxd jobs x.job else 0) + uq7 jobs nm (r ++ [l]) = ((if x.node = nm then uxd jobs x.job else 0) + uq7 jobs nm r) + _
  rw [vve jobs nm r l]
  omega
theorem xj1 (jobs : List JobD) {ls : List uqd} {k : Nat} {l : uqd} (h : ls[k]? = some l) : (fun nm => uq7 jobs nm (ls.take (k + 1))) = addAt (fun nm => uq7 jobs nm (ls.take k)) l.node (uxd jobs l.job) := by
 funext nm
 rw [List.take_add_one, h, Option.toList_some, vve]
 unfold addAt
 by_cases hn : l.node = nm
 ·rw [if_pos hn, if_pos hn, hn]
 ·rw [if_neg hn, if_neg hn]; exact Int.add_zero _
theorem used_bd {s : St} (F : Fine s) (nm : ByteArray) (k : Nat) : 0 <= uq7 s.jobs nm (s.leases.take k) ∧ uq7 s.jobs nm (s.leases.take k) <= 40000000 := by
 have h := vxj F.j
 have hl : (s.leases.take k).length <= 40 := by rw [List.length_take]; have := F.nl; omega
 have main : ∀ (ls : List uqd), 0 <= uq7 s.jobs nm ls ∧ uq7 s.jobs nm ls <= ls.length * 1000000 := by
  intro ls
  induction ls with
  | nil => simp [uq7]
  | cons x r ih =>
   have hx := h x.job
   show 0 <= (if x.node = nm then uxd s.jobs x.job else 0) + uq7 s.jobs nm r ∧ (if x.node = nm then uxd s.jobs x.job else 0) + uq7 s.jobs nm r <= ((x :: r).length : Int) * 1000000
   rw [List.length_cons]
   split <;> omega
 have := main (s.leases.take k)
 omega
def MapU (w : World) (b : Nat) (u : ByteArray -> Int) : Prop := ∃ m, MapIs w b m ∧ ∀ nm, (getM m nm).getD (.int .i64 0) = .int .i64 (u nm)
section
variable {w w' : World} {b : Nat} {u : ByteArray -> Int}
theorem MapU.below (h : MapU w b u) (hb : Below w.heap.size w w') : MapU w' b u := by obtain ⟨m, h1, h2⟩ := h; exact ⟨m, h1.below hb, h2⟩
theorem MapU.lt (h : MapU w b u) : b < w.heap.size := by obtain ⟨m, h1, h2⟩ := h; exact h1.lt
theorem MapU.look (h : MapU w b u) (s : ByteArray) : (Instr.lookup 85 (.map (some b)) (.string s) false).run prog w = .ok (.int .i64 (u s)) w := by
 obtain ⟨m, hm, hg⟩ := h
 have := ukj (P := prog) hm underlying85 underlying9 s _ (wvx _) false
 rw [hg] at this
 rw [this]; rfl
theorem MapU.put (h : MapU w b u) (s : ByteArray) (n : Int) : ∃ w', (Instr.mapUpdate 85 (.map (some b)) (.string s) (.int .i64 (u s + n))).run prog w = .ok () w' ∧ MapU w' b (addAt u s n) ∧ w.grownBy w' (some b) := by
 obtain ⟨m, hm, hg⟩ := h
 obtain ⟨w', h1, h2, h3, h4⟩ := ukk (P := prog) hm underlying85 underlying9 s (.int .i64 (u s + n))
 refine ⟨w', h1, ⟨_, h2, fun nm => ?_⟩, h3⟩
 rw [vjj]
 unfold addAt
 by_cases h5 : s = nm
 ·rw [if_pos h5, if_pos h5]; rfl
 ·rw [if_neg h5, if_neg h5]; exact hg nm
theorem MapU.made (w : World) : MapU (w.alloc (.map #[] 0)) w.heap.size (fun _ => 0) := ⟨[], ⟨#[], 0, heap_alloc_new w _, rfl, by simp⟩, fun nm => rfl⟩
end
end Go.Proofs.YtibiankbmhdljaaGreatDoor
