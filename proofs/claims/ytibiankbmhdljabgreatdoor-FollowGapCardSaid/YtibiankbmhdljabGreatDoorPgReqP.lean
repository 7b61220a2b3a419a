/-
  Several texts in one: ReqP, ReqZ.
-/
import Derived.Test.YtibiankbmhdljabGreatDoorPgSrvP
import Derived.Test.YtibiankbmhdljabGreatDoorPgDelD
set_option linter.all false
set_option maxHeartbeats 16000000
set_option maxRecDepth 100000
namespace Go.Proofs.YtibiankbmhdljabGreatDoor
open Go.Proofs.Tryz
def noQ : ReqD := ⟨0, noJ, noN, noL, ByteArray.empty, 0⟩
def partB (q : ReqD) : List UInt8 :=
 if q.kind = 1 then encJ 3 q.job else
 if q.kind = 2 then encN 3 q.node else
 if q.kind = 5 then encL q.lease else
 if q.kind = 3 ∨ q.kind = 4 ∨ q.kind = 6 then textB q.name.data.toList else
 if q.kind = 7 then putN q.n.toNat else []
def encQ (q : ReqD) : List UInt8 := putN q.kind.toNat ++ partB q
def encQR (q : ReqD) : List UInt8 × Nat := if reqE q ≠ 0 then ([], reqE q) else (encQ q, 0)
def pPart (k : Int) (l : List UInt8) : Res ReqD :=
 if k = 1 then pMap (fun j => ⟨1, j, noN, noL, ByteArray.empty, 0⟩) (pJob 3) l else
 if k = 2 then pMap (fun n => ⟨2, noJ, n, noL, ByteArray.empty, 0⟩) (pNode 3) l else
 if k = 5 then pMap (fun x => ⟨5, noJ, noN, x, ByteArray.empty, 0⟩) ujx l else
 if k = 3 ∨ k = 4 ∨ k = 6 then pMap (fun s => ⟨k, noJ, noN, noL, s, 0⟩) pStr l else
 if k = 7 then pMap (fun n => ⟨7, noJ, noN, noL, ByteArray.empty, n⟩) pInt l else
 pUnit ⟨k, noJ, noN, noL, ByteArray.empty, 0⟩ l
def finQ (r : Res ReqD) : ReqD × Nat := match r with
 | .bad e => (noQ, e)
 | .ok q r' => if r' ≠ [] then (noQ, 4) else if reqE q ≠ 0 then (noQ, reqE q) else (q, 0)
def decQR (l : List UInt8) : ReqD × Nat := match pInt l with
 | .bad e => (noQ, e)
 | .ok k r => if 1 <= k ∧ k <= 9 then finQ (pPart k r) else (noQ, 1)
theorem ujg {q : ReqD} (h : reqE q = 0) : (1 <= q.kind ∧ q.kind <= 9) ∧ uzo q = q ∧ partE q = 0 := by
 unfold reqE at h
 by_cases h1 : 1 <= q.kind ∧ q.kind <= 9
 ·rw [if_pos h1] at h
  by_cases h2 : uzo q = q
  ·rw [if_pos h2] at h; exact ⟨h1, h2, h⟩
  ·rw [if_neg h2] at h; cases h
 ·rw [if_neg h1] at h; cases h
theorem xzh {q : ReqD} (h : reqE q = 0) (m : List UInt8) : pPart q.kind (partB q ++ m) = .ok q m := by
 obtain ⟨hk, hw, hp⟩ := ujg h
 unfold pPart partB
 by_cases k1 : q.kind = 1
 ·rw [if_pos k1, if_pos k1]
  have hj : jobE q.job = 0 := by unfold partE at hp; rwa [if_pos k1] at hp
  unfold pMap
  rw [(uj9 3).fwd q.job m (vxf hj)]
  unfold uzo at hw
  rw [if_pos k1] at hw
  exact congrArg (fun z => Res.ok z m) hw
 rw [if_neg k1, if_neg k1]
 by_cases k2 : q.kind = 2
 ·rw [if_pos k2, if_pos k2]
  have hj : nodeE q.node = 0 := by unfold partE at hp; rwa [if_neg k1, if_pos k2] at hp
  unfold pMap
  rw [(uz3 3).fwd q.node m (uy7 hj)]
  unfold uzo at hw
  rw [if_neg k1, if_pos k2] at hw
  exact congrArg (fun z => Res.ok z m) hw
 rw [if_neg k2, if_neg k2]
 by_cases k5 : q.kind = 5
 ·rw [if_pos k5, if_pos k5]
  have hj : uxz q.lease = 0 := by unfold partE at hp; rwa [if_neg k1, if_neg k2, if_pos k5] at hp
  unfold pMap
  rw [ujj.fwd q.lease m (uwy hj)]
  unfold uzo at hw
  rw [if_neg k1, if_neg k2, if_pos k5] at hw
  exact congrArg (fun z => Res.ok z m) hw
 rw [if_neg k5, if_neg k5]
 by_cases k3 : q.kind = 3 ∨ q.kind = 4 ∨ q.kind = 6
 ·rw [if_pos k3, if_pos k3]
  have hj : uq9 q.name = true := by
   unfold partE at hp; rw [if_neg k1, if_neg k2, if_neg k5, if_pos k3] at hp
   cases hn : uq9 q.name
   ·rw [hn] at hp; cases hp
   ·rfl
  unfold pMap
  rw [ux7.fwd q.name m (uzl hj)]
  unfold uzo at hw
  rw [if_neg k1, if_neg k2, if_neg k5, if_pos k3] at hw
  exact congrArg (fun z => Res.ok z m) hw
 rw [if_neg k3, if_neg k3]
 by_cases k7 : q.kind = 7
 ·rw [if_pos k7, if_pos k7]
  have hj : uq8 q.n 0 1099511627776 = true := by
   unfold partE at hp; rw [if_neg k1, if_neg k2, if_neg k5, if_neg k3, if_pos k7] at hp
   cases hn : uq8 q.n 0 1099511627776
   ·rw [hn] at hp; cases hp
   ·rfl
  have hb := uqz.1 hj
  unfold pMap
  rw [ux1.fwd q.n m ⟨hb.1, by omega⟩]
  unfold uzo at hw
  rw [if_neg k1, if_neg k2, if_neg k5, if_neg k3, if_pos k7] at hw
  exact congrArg (fun z => Res.ok z m) hw
 ·rw [if_neg k7, if_neg k7]
  unfold uzo at hw
  rw [if_neg k1, if_neg k2, if_neg k5, if_neg k3, if_neg k7] at hw
  exact congrArg (fun z => Res.ok z m) hw
theorem wqp {q : ReqD} (h : reqE q = 0) : decQR (encQ q) = (q, 0) := by
 obtain ⟨hk, _, _⟩ := ujg h
 unfold decQR encQ
 rw [ux1.fwd q.kind _ ⟨by omega, by omega⟩]
 simp only []
 rw [if_pos hk]
 have := xzh h []
 rw [List.append_nil] at this
 rw [this]
 unfold finQ
 simp only []
 rw [if_neg (by simp), if_neg (by rw [h]; simp)]
theorem decQR_ok {l : List UInt8} (h : (decQR l).2 = 0) : reqE (decQR l).1 = 0 := by
 have hfin : ∀ r : Res ReqD, (∀ e, r = .bad e -> e ≠ 0) -> (finQ r).2 = 0 -> reqE (finQ r).1 = 0 := by
  intro r hr h
  cases r with
  | bad e => exact absurd h (hr e rfl)
  | ok q r' =>
   unfold finQ at h ⊢
   simp only [] at h ⊢
   by_cases h1 : r' ≠ []
   ·rw [if_pos h1] at h; cases h
   ·rw [if_neg h1] at h ⊢
    by_cases h2 : reqE q ≠ 0
    ·rw [if_pos h2] at h; exact absurd h h2
    ·rw [if_neg h2]; simpa using h2
 have herr : ∀ k r e, pPart k r = .bad e -> e ≠ 0 := by
  intro k r e he
  have hm : ∀ {α : Type} (f : α -> ReqD) (p : List UInt8 -> Res α), (∀ l e, p l = .bad e -> e ≠ 0) -> pMap f p r = .bad e -> e ≠ 0 := by
   intro α f p hp h
   unfold pMap at h
   cases h4 : p r with
   | bad e' => rw [h4] at h; injection h with h; subst h; exact hp _ _ h4
   | ok a r => rw [h4] at h; cases h
  unfold pPart at he
  split at he
  ·exact hm _ _ (uj9 3).err he
  split at he
  ·exact hm _ _ (uz3 3).err he
  split at he
  ·exact hm _ _ ujj.err he
  split at he
  ·exact hm _ _ ux7.err he
  split at he
  ·exact hm _ _ ux1.err he
  ·cases he
 unfold decQR at h ⊢
 cases hp : pInt l with
 | bad e => rw [hp] at h; exact absurd h (ux1.err _ _ hp)
 | ok k r =>
  rw [hp] at h
  simp only [] at h ⊢
  by_cases hk : 1 <= k ∧ k <= 9
  ·rw [if_pos hk] at h ⊢
   exact hfin _ (herr k r) h
  ·rw [if_neg hk] at h; cases h
theorem ujq {t : List UInt8} (h : okTx t) : (textB t).length <= 26 := by
 have := uqj t.length (by have := h.1; omega)
 have := h.1
 unfold textB; rw [zrb]; omega
theorem wyf {v : Int} {j : JobD} (h : okJb v j) : (encJ v j).length <= 82 := by
 have h1 := ujq h.1
 have h2 : (putN (zigI j.prio).toNat).length <= 10 := uqj _ (by have := h.2.1; omega)
 have h3 : (putN j.need.toNat).length <= 10 := uqj _ (by have := h.2.2.1.2; omega)
 have h4 : (if decide (1 < v) = true then putN j.tries.toNat else []).length <= 10 := by
  have h9 := h.2.2.2.1
  split
  ·rename_i hv; rw [if_pos hv] at h9; exact uqj _ (by have := h9.2; omega)
  ·simp
 have h5 : (if decide (2 < v) = true then textB j.tag.data.toList else []).length <= 26 := by
  have h9 := h.2.2.2.2
  split
  ·rename_i hv; rw [if_pos hv] at h9; exact ujq h9
  ·simp
 unfold encJ
 rw [zrb, zrb, zrb, zrb]; omega
theorem wyh {v : Int} {j : NodeD} (h : okNd v j) : (encN v j).length <= 62 := by
 have h1 := ujq h.1
 have h2 : (putN j.room.toNat).length <= 10 := uqj _ (by have := h.2.1.2; omega)
 have h3 : (if decide (1 < v) = true then textB j.zone.data.toList else []).length <= 26 := by
  have h9 := h.2.2
  split
  ·rename_i hv; rw [if_pos hv] at h9; exact ujq h9
  ·simp
 unfold encN
 rw [zrb, zrb]; omega
theorem wyg {j : uqf} (h : okLs j) : (encL j).length <= 62 := by
 have h1 := ujq h.1
 have h2 := ujq h.2.1
 have h3 : (putN j.till.toNat).length <= 10 := uqj _ (by have := h.2.2.2; omega)
 unfold encL
 rw [zrb, zrb]; omega
theorem vw9 {q : ReqD} (h : reqE q = 0) : (encQ q).length <= 110 := by
 obtain ⟨hk, hw, hp⟩ := ujg h
 unfold encQ
 rw [zrb]
 have h1 := uqj q.kind.toNat (by omega)
 have h2 : (partB q).length <= 100 := by
  unfold partB
  unfold partE at hp
  split
  ·rename_i k1
   rw [if_pos k1] at hp
   have := wyf (vxf hp); omega
  rename_i k1
  rw [if_neg k1] at hp
  split
  ·rename_i k2
   rw [if_pos k2] at hp
   have := wyh (uy7 hp); omega
  rename_i k2
  rw [if_neg k2] at hp
  split
  ·rename_i k5
   rw [if_pos k5] at hp
   have := wyg (uwy hp); omega
  rename_i k5
  rw [if_neg k5] at hp
  split
  ·rename_i k3
   rw [if_pos k3] at hp
   have hj : uq9 q.name = true := by
    cases hn : uq9 q.name
    ·rw [hn] at hp; cases hp
    ·rfl
   have := ujq (uzl hj); omega
  rename_i k3
  rw [if_neg k3] at hp
  split
  ·rename_i k7
   rw [if_pos k7] at hp
   have hj : uq8 q.n 0 1099511627776 = true := by
    cases hn : uq8 q.n 0 1099511627776
    ·rw [hn] at hp; cases hp
    ·rfl
   have hb := uqz.1 hj
   have := uqj q.n.toNat (by omega); omega
  ·simp
 omega
def Low {α : Type} (p : List UInt8 -> Res α) : Prop := ∀ l e, p l = .bad e -> e <= 9
theorem vyv : ∀ (f i n : Nat) (l : List UInt8), (rdN f i n l).2.2 <= 9
 | 0, _, _, _ => by show 4 <= 9; decide
 | _ + 1, _, _, [] => by show 3 <= 9; decide
 | f + 1, i, n, c :: r => by
  unfold rdN
  split
  ·show 4 <= 9; decide
  ·split
   ·show 0 <= 9; decide
   ·exact vyv f _ _ r
end Go.Proofs.YtibiankbmhdljabGreatDoor
