/-
  Several texts in one: RepM, RepW.
-/
import Derived.Test.YtibiankbmhdljaaGreatDoorPkHubS
set_option linter.all false
set_option maxHeartbeats 16000000
set_option maxRecDepth 100000
namespace Go.Proofs.YtibiankbmhdljaaGreatDoor
open Go.Proofs.Tryz
def selQ (l : List ReqD) : List ReqD := l.filter fun q => decide (reqE q = 0 ∧ ¬(q.kind = 8 ∨ q.kind = 9))
theorem xjb {l : List ReqD} {q : ReqD} (h : q ∈ selQ l) : reqE q = 0 ∧ ¬(q.kind = 8 ∨ q.kind = 9) := by
 have := (List.mem_filter.1 h).2
 simpa using this
theorem wvm (l : List ReqD) : (selQ l).length <= l.length := List.length_filter_le _ _
theorem selQ_yes {l : List ReqD} {n : Nat} {q : ReqD} (hx : l[n]? = some q) (h : reqE q = 0 ∧ ¬(q.kind = 8 ∨ q.kind = 9)) : selQ (l.take (n + 1)) = selQ (l.take n) ++ [q] := by
 unfold selQ
 rw [List.take_add_one, hx, Option.toList_some, List.filter_append, List.filter_cons_of_pos (by simpa using h)]
 rfl
theorem selQ_no {l : List ReqD} {n : Nat} {q : ReqD} (hx : l[n]? = some q) (h : ¬(reqE q = 0 ∧ ¬(q.kind = 8 ∨ q.kind = 9))) : selQ (l.take (n + 1)) = selQ (l.take n) := by
 unfold selQ
 rw [List.take_add_one, hx, Option.toList_some, List.filter_append]
 have : (List.filter (fun q => decide (reqE q = 0 ∧ ¬(q.kind = 8 ∨ q.kind = 9))) [q]) = [] := by
  rw [List.filter_cons_of_neg (by simpa using h)]; rfl
 rw [this, List.append_nil]
def allQ (qs : List ReqD) : List UInt8 := encs (qs.map reqFr)
theorem wy7 (qs : List ReqD) {q : ReqD} (h : reqE q = 0) : allQ (qs ++ [q]) = allQ qs ++ uq4 q := by
 unfold allQ uq4
 rw [if_pos h, List.map_append, uxv]
 rfl
theorem wj6 {qs : List ReqD} (h : ∀ q ∈ qs, reqE q = 0) : (allQ qs).length <= qs.length * 130 := by
 induction qs with
 | nil => simp [allQ, uxn]
 | cons q r ih =>
  have h1 := ih fun x hx => h x (List.mem_cons_of_mem _ hx)
  have h2 := ujo q
  have hq := h q (List.mem_cons_self ..)
  have e : allQ (q :: r) = uq4 q ++ allQ r := by
   unfold allQ uq4
   rw [if_pos hq, List.map_cons, uje, ukc]
  rw [e, zrb, List.length_cons]
  omega
theorem xz0 {x : Nat × Int} (h : uzj (x.1 : Int) x.2 = true) : (wireF (repFr x).ver (repFr x).kind (repFr x).pl).length <= 38 := by
 obtain ⟨h1, h2⟩ := uvg.1 h
 have hl : (encP (x.1 : Int) x.2).length <= 20 := by
  unfold encP
  rw [zrb]
  have a := uqk (x.1 : Int).toNat (by omega)
  have b := uqk x.2.toNat (by omega)
  omega
 rw [ux0]
 have h3 : (repFr x).pl = encP x.1 x.2 := rfl
 rw [h3]
 have h4 := uqk (encP (x.1 : Int) x.2).length (by omega)
 omega
theorem wvi : ∀ (l : List (Nat × Int)), (∀ x ∈ l, uzj (x.1 : Int) x.2 = true) -> (encs (l.map repFr)).length <= l.length * 38
 | [], _ => by simp [uxn]
 | x :: r, h => by
  have h1 := wvi r fun y hy => h y (List.mem_cons_of_mem _ hy)
  have h2 := xz0 (h x (List.mem_cons_self ..))
  rw [List.map_cons, uje, zrb, List.length_cons]
  omega
theorem sel_good {qs : List ReqD} (hq : ∀ q ∈ qs, reqE q = 0 ∧ ¬(q.kind = 8 ∨ q.kind = 9)) : ∀ x ∈ qs.map reqFr, uzt x := by
 intro x hx
 obtain ⟨q, h1, rfl⟩ := List.mem_map.1 hx
 exact ujt (hq q h1).1
theorem vv7 (s : St) (k : Nat) {qs : List ReqD} (hq : ∀ q ∈ qs, reqE q = 0 ∧ ¬(q.kind = 8 ∨ q.kind = 9)) : newF ((newH s).c k).L (allQ qs) = qs.map reqFr := by
 have := (uy5 (fs := []) (gs := qs.map reqFr) (by simp) (sel_good hq)).1
 rw [uxn] at this
 exact this
theorem sel_mid {s : St} (F : Fine s) (k : Nat) {qs : List ReqD} (hq : ∀ q ∈ qs, reqE q = 0 ∧ ¬(q.kind = 8 ∨ q.kind = 9)) (n i : Nat) :
  (encs ((((newH s).feed k (allQ qs)).frames k ((newF ((newH s).c k).L (allQ qs)).take n)).c i).waits).length <= qs.length * 38 := by
 rw [vv7 s k hq, <- List.map_take]
 have hs : Still ((newH s).feed k (allQ qs)) := by
  intro i
  unfold HubD.feed HubD.upd
  simp only
  by_cases hi : i = k
  ·rw [if_pos hi]; rfl
  ·rw [if_neg hi]; rfl
 by_cases hi : i = k
 ·subst hi
  have hq2 : ∀ q ∈ qs.take n, reqE q = 0 ∧ ¬(q.kind = 8 ∨ q.kind = 9) := fun q h => hq q (List.mem_of_mem_take h)
  have h1 := (vq1 (k := i) (qs.take n) (h := (newH s).feed i (allQ qs)) (uz8 F) hs (by unfold HubD.feed; rw [uqr]; rfl) hq2).2.1
  rw [h1]
  have hw : (((newH s).feed i (allQ qs)).c i).waits = [] := by unfold HubD.feed; rw [uqr]; rfl
  rw [hw, List.nil_append]
  have h2 := wvi _ (vyd (qs.take n) (v := ((newH s).feed i (allQ qs)).srv) (uz8 F))
  rw [vjq, List.length_take] at h2
  have h3 : min n qs.length * 38 <= qs.length * 38 := Nat.mul_le_mul_right _ (Nat.min_le_right _ _)
  omega
 ·rw [uw9 hi _ (hs i)]
  have hw : (((newH s).feed k (allQ qs)).c i).waits = [] := by unfold HubD.feed; rw [uq1 _ _ hi]; rfl
  rw [hw, uxn]
  simp
theorem sel_out {s : St} (F : Fine s) {k : Nat} {qs : List ReqD} (hq : ∀ q ∈ qs, reqE q = 0 ∧ ¬(q.kind = 8 ∨ q.kind = 9)) : (newH s).out k (allQ qs) = (repD ⟨s, 0⟩ qs).map repFr := wjq F hq
theorem wjs {s : St} (F : Fine s) {qs : List ReqD} : ∀ x ∈ (repD ⟨s, 0⟩ qs).map repFr, uzt x := by
 intro x hx
 obtain ⟨y, hy, rfl⟩ := List.mem_map.1 hx
 have h := vyd qs (uz8 F) y hy
 obtain ⟨h1, h2⟩ := uvg.1 h
 refine ⟨⟨by show 1 <= 3; decide, by show 3 <= 3; decide⟩, ⟨by show 1 <= 4; decide, by show 4 <= 4; decide⟩, ?_⟩
 show (encP (y.1 : Int) y.2).length <= 6000
 unfold encP
 rw [zrb]
 have a := uqk (y.1 : Int).toNat (by omega)
 have b := uqk y.2.toNat (by omega)
 omega
def rowP (x : Nat × Int) : List Value := [.int .i64 (x.1 : Int), .int .i64 x.2]
theorem wju (v : Srv) (qs : List ReqD) (q : ReqD) : vxs v (qs ++ [q]) = (doR (vxs v qs) q).srv := by unfold vxs; rw [List.foldl_append]; rfl
open Go.RowKit
theorem rep_info : (prog.info? 47).map (fun i => (i.zero, i.size, i.bytes)) = some (some (.agg #[.int .i64 0, .int .i64 0]), 2, 16) := by kernel_rfl
section
variable {w w' : World} {B g sv : Nat} {fd : Nat -> Nat} {ws : Nat -> Value} {h : HubD}
theorem HubM.beside (H : HubM w B g sv fd ws h) {k : Nat} (hg : w.grownBy w' (some k)) {cs : Array Value} (hk : Blk w k 97 cs) (hne : sv ≠ k) : HubM w' B g sv fd ws h := by
 have n1 : g ≠ k := H.b.ne_ hk (by decide)
 refine ⟨H.b.kept hg (fun e => n1 (by injection e with e; exact e.symm)), H.s.other hg hk hne, fun i hi => (H.f i hi).kept hg (fun e => ?_), H.d, fun i hi => (H.q i hi).kept hg (fun j hj e => ?_), H.e, ⟨H.lo.1, H.lo.2.1, H.lo.2.2.1, zrc H.lo.2.2.2 hg.size⟩⟩
 ·injection e with e
  exact (H.f i hi).ne_ hk (by decide) e.symm
 ·obtain ⟨c3, h3⟩ := (H.q i hi).own hj
  injection e with e
  exact h3.ne_ hk (by decide) e.symm
theorem vk2 {base n : Nat} {v : Value} {xs : List Value} (ho : w.ownsRow base 47 2 v n xs) (hg : w.grownBy w' v.ownBlock) : Below w.heap.size w w' ∨ ∃ k cs, w.grownBy w' (some k) ∧ Blk w k 47 cs ∧ base <= k := by
 rcases ho.2 with ⟨rfl, _⟩ | ⟨k, cap, cur, rfl, hb, hk, _⟩
 ·exact .inl ⟨hg.os, hg.tape, hg.output, hg.size, fun j hj => hg.block j hj (by simp [Value.ownBlock])⟩
 ·exact .inr ⟨k, cur, hg, hk, hb⟩
theorem HubM.rep (H : HubM w B g sv fd ws h) {base n : Nat} {v : Value} {xs : List Value} (ho : w.ownsRow base 47 2 v n xs) (hg : w.grownBy w' v.ownBlock) : HubM w' B g sv fd ws h := by
 rcases vk2 ho hg with hb | ⟨k, cs, h1, h2, _⟩
 ·exact H.below hb
 ·exact H.offs h1 h2 (.inl rfl)
theorem SvI.rep {k : Nat} {x : Srv} (hs : SvI w k x) {base n : Nat} {v : Value} {xs : List Value} (ho : w.ownsRow base 47 2 v n xs) (hg : w.grownBy w' v.ownBlock) : SvI w' k x := by
 rcases vk2 ho hg with hb | ⟨k, cs, h1, h2, _⟩
 ·exact hs.below hb
 ·exact hs.offs h1 h2 (.inl rfl)
theorem xqa {b base n : Nat} {w0 : World} {v : Value} {xs : List Value} (c : Below b w0 w) (hb : b <= base) (hw : b <= w.heap.size) (ho : w.ownsRow base 47 2 v n xs) (hg : w.grownBy w' v.ownBlock) : Below b w0 w' := by
 rcases vk2 ho hg with h | ⟨k, cs, h1, h2, h3⟩
 ·exact c.trans (h.mono hw)
 ·exact uz1 c h1 (zrc hb h3) hw
theorem rep_form {base n : Nat} {v : Value} {xs : List Value} (ho : w.ownsRow base 47 2 v (n + 1) xs) : ∃ q d, v = .slice q (n + 1) d := by
 rcases ho.2 with ⟨_, h0⟩ | ⟨k, cap, cur, rfl, _⟩
 ·omega
 ·exact ⟨_, cap, rfl⟩
end
theorem wjp (l : List (Nat × Int)) : ∀ r ∈ l.map rowP, r.length = 2 := by
 intro r hr
 obtain ⟨x, _, rfl⟩ := List.mem_map.1 hr
 rfl
end Go.Proofs.YtibiankbmhdljaaGreatDoor
