/-
  Several texts in one: SrvP, SrvL, SrvQ, GrB2, ReqO.
-/
import Derived.Test.YtibiankbmhdljabGreatDoorPgChgP
set_option linter.all false
set_option maxHeartbeats 16000000
set_option maxRecDepth 100000
namespace Go.Proofs.YtibiankbmhdljabGreatDoor
open Go.Proofs.Tryz
structure ReqD where
 kind : Int
 job : JobD
 node : NodeD
 lease : uqf
 name : ByteArray
 n : Int
 deriving DecidableEq
abbrev qv (q : ReqD) : Array Value := #[.int .i64 q.kind, .string q.job.name, .int .i64 q.job.prio, .int .i64 q.job.need, .int .i64 q.job.tries, .string q.job.tag, .string q.node.name, .int .i64 q.node.room, .string q.node.zone, .string q.lease.job, .string q.lease.node, .int .i64 q.lease.till, .string q.name, .int .i64 q.n]
def noJ : JobD := ⟨ByteArray.empty, 0, 0, 0, ByteArray.empty⟩
def noN : NodeD := ⟨ByteArray.empty, 0, ByteArray.empty⟩
def noL : uqf := ⟨ByteArray.empty, ByteArray.empty, 0⟩
def uzo (q : ReqD) : ReqD :=
 if q.kind = 1 then ⟨1, q.job, noN, noL, ByteArray.empty, 0⟩ else
 if q.kind = 2 then ⟨2, noJ, q.node, noL, ByteArray.empty, 0⟩ else
 if q.kind = 5 then ⟨5, noJ, noN, q.lease, ByteArray.empty, 0⟩ else
 if q.kind = 3 ∨ q.kind = 4 ∨ q.kind = 6 then ⟨q.kind, noJ, noN, noL, q.name, 0⟩ else
 if q.kind = 7 then ⟨7, noJ, noN, noL, ByteArray.empty, q.n⟩ else
 ⟨q.kind, noJ, noN, noL, ByteArray.empty, 0⟩
def partE (q : ReqD) : Nat :=
 if q.kind = 1 then jobE q.job else
 if q.kind = 2 then nodeE q.node else
 if q.kind = 5 then uxz q.lease else
 if q.kind = 3 ∨ q.kind = 4 ∨ q.kind = 6 then (if uq9 q.name = true then 0 else 4) else
 if q.kind = 7 then (if uq8 q.n 0 1099511627776 = true then 0 else 1) else 0
def reqE (q : ReqD) : Nat := if 1 <= q.kind ∧ q.kind <= 9 then (if uzo q = q then partE q else 4) else 1
section
variable {α : Type} (key : α -> ByteArray)
def posL (l : List α) (s : ByteArray) : Nat := (l.takeWhile fun x => ltS (key x) s).length
def hasL (l : List α) (s : ByteArray) : Bool := l.any fun x => decide (key x = s)
def putL (l : List α) (x : α) : List α := if hasL key l (key x) = true then l.set (posL key l (key x)) x else l.take (posL key l (key x)) ++ x :: l.drop (posL key l (key x))
def takeL (l : List α) (s : ByteArray) : List α := if hasL key l s = true then l.eraseIdx (posL key l s) else l
end
structure Srv where
 st : St
 now : Int
 deriving DecidableEq
def vv5 (j : JobD) : JobD := { j with tries := j.tries + 1 }
def uyb (s : St) (now : Int) (l : uqf) : St × Nat :=
 match jobAt s.jobs l.job with
 | none => (s, 6)
 | some j =>
  if hasL NodeD.name s.nodes l.node = false then (s, 6) else
  if hasL uqf.job s.leases l.job = true then (s, 7) else
  if l.till <= now then (s, 1) else
  if j.tries = 100 then (s, 2) else
  let t : St := { s with jobs := s.jobs.set (posL JobD.name s.jobs l.job) (vv5 j), leases := putL uqf.job s.leases l }
  (t, uqq t)
def doW (v : Srv) (q : ReqD) : Srv × Nat :=
 if q.kind = 1 then let t : St := { v.st with jobs := putL JobD.name v.st.jobs q.job }; (⟨t, v.now⟩, uqq t) else
 if q.kind = 2 then let t : St := { v.st with nodes := putL NodeD.name v.st.nodes q.node }; (⟨t, v.now⟩, uqq t) else
 if q.kind = 3 then (⟨{ v.st with jobs := takeL JobD.name v.st.jobs q.name, leases := v.st.leases.filter fun l => !decide (l.job = q.name) }, v.now⟩, if hasL JobD.name v.st.jobs q.name = true then 0 else 6) else
 if q.kind = 4 then (⟨{ v.st with nodes := takeL NodeD.name v.st.nodes q.name, leases := v.st.leases.filter fun l => !decide (l.node = q.name) }, v.now⟩, if hasL NodeD.name v.st.nodes q.name = true then 0 else 6) else
 if q.kind = 5 then let r := uyb v.st v.now q.lease; (⟨r.1, v.now⟩, r.2) else
 if q.kind = 6 then (⟨{ v.st with leases := takeL uqf.job v.st.leases q.name }, v.now⟩, if hasL uqf.job v.st.leases q.name = true then 0 else 6) else
 if q.kind = 7 then (if 1099511627776 - v.now < q.n then (v, 1) else (⟨{ v.st with leases := v.st.leases.filter fun l => !decide (l.till <= v.now + q.n) }, v.now + q.n⟩, 0)) else
 (v, 0)
def doN (v : Srv) (q : ReqD) : Srv × Nat := if reqE q = 0 then doW v q else (v, reqE q)
def sameT (a b : St) : Bool := decide (a.jobs = b.jobs ∧ a.nodes = b.nodes ∧ a.leases = b.leases)
structure DoR where
 code : Nat
 told : Option uq1
 srv : Srv
def doR (v : Srv) (q : ReqD) : DoR :=
 let r := doN v q
 if r.2 = 0 ∧ sameT v.st r.1.st = false then
  if 1099511627776 < v.st.rev + 1 then ⟨2, none, v⟩
  else ⟨0, some (betw v.st { r.1.st with rev := v.st.rev + 1 }), ⟨{ r.1.st with rev := v.st.rev + 1 }, r.1.now⟩⟩
 else ⟨r.2, none, ⟨v.st, if r.2 = 0 then r.1.now else v.now⟩⟩
section
variable {α : Type} {key : α -> ByteArray}
theorem wvm (x : α) (r : List α) (s : ByteArray) : posL key (x :: r) s = if ltS (key x) s = true then posL key r s + 1 else 0 := by
 unfold posL
 rw [List.takeWhile_cons]
 split <;> rfl
theorem pos_is : ∀ {l : List α} {s : ByteArray} {k : Nat}, k <= l.length -> (∀ t x, t < k -> l[t]? = some x -> ltS (key x) s = true) -> (∀ x, l[k]? = some x -> ltS (key x) s = false) -> posL key l s = k
 | [], s, k, hk, _, _ => by simp at hk; subst hk; rfl
 | a :: r, s, k, hk, h1, h2 => by
  rw [wvm]
  cases k with
  | zero => rw [h2 a rfl]; rfl
  | succ k =>
   rw [h1 0 a (by omega) rfl, if_pos rfl]
   rw [pos_is (by simpa using hk) (fun t x ht hx => h1 (t + 1) x (by omega) (by simpa using hx)) (fun x hx => h2 x (by simpa using hx))]
theorem vx0 {l : List α} {s : ByteArray} : hasL key l s = true ↔ ∃ x ∈ l, key x = s := by
 unfold hasL
 rw [List.any_eq_true]
 simp
theorem vqr {l : List α} {s : ByteArray} : hasL key l s = false ↔ ∀ x ∈ l, key x ≠ s := by
 unfold hasL
 rw [List.any_eq_false]
 simp
theorem wk2 {l : List α} (hs : uq7 key l) {s : ByteArray} (h : hasL key l s = true) : ∃ x, l[posL key l s]? = some x ∧ key x = s := by
 obtain ⟨x, hx, he⟩ := vx0.1 h
 obtain ⟨t, ht, rfl⟩ := List.mem_iff_getElem.1 hx
 have : posL key l s = t := by
  refine pos_is (by omega) (fun u y hu hy => ?_) (fun y hy => ?_)
  ·obtain ⟨hl, rfl⟩ := List.getElem?_eq_some_iff.1 hy
   rw [<- he]
   exact List.pairwise_iff_getElem.1 hs u t hl ht hu
  ·rw [zrd ht] at hy
   injection hy with hy
   rw [<- hy, he]
   exact uxs _
 exact ⟨l[t], by rw [this]; exact zrd ht, he⟩
theorem uvy {l : List α} (hs : uq7 key l) (s : ByteArray) (z : α) : z ∈ takeL key l s ↔ z ∈ l ∧ key z ≠ s := by
 unfold takeL
 cases hh : hasL key l s
 ·rw [if_neg (by simp)]
  exact ⟨fun h => ⟨h, vqr.1 hh z h⟩, fun h => h.1⟩
 ·rw [if_pos rfl]
  obtain ⟨y, hy, he⟩ := wk2 hs hh
  obtain ⟨hk, hyk⟩ := List.getElem?_eq_some_iff.1 hy
  rw [List.mem_eraseIdx_iff_getElem]
  constructor
  ·rintro ⟨t, ht, hne, rfl⟩
   refine ⟨List.getElem_mem _, fun hc => hne ?_⟩
   rw [<- he] at hc
   rcases Nat.lt_trichotomy t (posL key l s) with h | h | h
   ·have := List.pairwise_iff_getElem.1 hs t _ ht hk h
    rw [hyk, hc, uxs] at this; cases this
   ·exact h
   ·have := List.pairwise_iff_getElem.1 hs _ t hk ht h
    rw [hyk, hc, uxs] at this; cases this
  ·rintro ⟨hz, hne⟩
   obtain ⟨t, ht, rfl⟩ := List.mem_iff_getElem.1 hz
   refine ⟨t, ht, ?_, rfl⟩
   rintro rfl
   exact hne (by rw [hyk]; exact he)
theorem vzw {l : List α} (hs : uq7 key l) (s : ByteArray) : uq7 key (takeL key l s) := by
 unfold takeL
 cases hh : hasL key l s
 ·rw [if_neg (by simp)]; exact hs
 ·rw [if_pos rfl]; exact List.Pairwise.sublist (List.eraseIdx_sublist _ _) hs
theorem wx1 (l : List α) (s : ByteArray) : (takeL key l s).length <= l.length := by
 unfold takeL
 split
 ·exact List.length_eraseIdx_le _ _
 ·exact zra _
end
theorem wje {l : List JobD} (hs : uq7 JobD.name l) {x : JobD} (hx : x ∈ l) : jobAt l x.name = some x := by
 unfold jobAt
 cases h : l.find? fun j => decide (j.name = x.name) with
 | none => have h' := List.find?_eq_none.1 h x hx; simp at h'
 | some y => rw [ujs hs (List.mem_of_find?_eq_some h) hx (by simpa using List.find?_some h)]
theorem uy5 {l : List JobD} {nm : ByteArray} {j : JobD} (h : jobAt l nm = some j) : j ∈ l ∧ j.name = nm := by
 unfold jobAt at h
 exact ⟨List.mem_of_find?_eq_some h, by simpa using List.find?_some h⟩
theorem wjl {l : List NodeD} {nm : ByteArray} {j : NodeD} (h : uxv l nm = some j) : j ∈ l ∧ j.name = nm := by
 unfold uxv at h
 exact ⟨List.mem_of_find?_eq_some h, by simpa using List.find?_some h⟩
theorem uj7 {s : St} (h : Fine s) {l : uqf} (hl : l ∈ s.leases) : (∃ j ∈ s.jobs, j.name = l.job) ∧ (∃ n ∈ s.nodes, n.name = l.node) ∧ 0 <= l.till ∧ l.till <= 1099511627776 := by
 have := h.l l hl
 unfold ux5 at this
 cases h1 : jobAt s.jobs l.job with
 | none => rw [h1] at this; simp at this
 | some j =>
  cases h2 : uxv s.nodes l.node with
  | none => rw [h1, h2] at this; simp at this
  | some n =>
   rw [h1, h2] at this
   simp only [Option.isSome_some, Bool.and_self, if_true] at this
   cases h3 : uq8 l.till 0 1099511627776
   ·rw [h3] at this; simp at this
   ·exact ⟨⟨j, uy5 h1⟩, ⟨n, wjl h2⟩, uqz.1 h3⟩
theorem xx8 {jobs : List JobD} {nodes : List NodeD} {l : uqf} (h1 : ∃ j ∈ jobs, j.name = l.job) (h2 : ∃ n ∈ nodes, n.name = l.node) (h3 : 0 <= l.till ∧ l.till <= 1099511627776) : ux5 jobs nodes l = 0 := by
 unfold ux5
 have a1 : (jobAt jobs l.job).isSome = true := by
  obtain ⟨j, hj, he⟩ := h1
  unfold jobAt
  rw [List.find?_isSome]
  exact ⟨j, hj, decide_eq_true he⟩
 have a2 : (uxv nodes l.node).isSome = true := by
  obtain ⟨j, hj, he⟩ := h2
  unfold uxv
  rw [List.find?_isSome]
  exact ⟨j, hj, decide_eq_true he⟩
 rw [a1, a2, uqz.2 h3]
 rfl
theorem vkh {s : St} (h : Fine s) (nm : ByteArray) : 0 <= uxk s.jobs nm := by
 unfold uxk
 cases hj : jobAt s.jobs nm with
 | none => exact Int.le_refl _
 | some j => exact (uv4.1 (h.j j (uy5 hj).1)).2.2.1.1
theorem ww6 {s : St} (h : Fine s) {jobs : List JobD} (hs : uq7 JobD.name jobs) (hm : ∀ x ∈ jobs, x ∈ s.jobs) (nm : ByteArray) : uxk jobs nm <= uxk s.jobs nm := by
 unfold uxk
 cases hj : jobAt jobs nm with
 | none => exact vkh h nm
 | some j =>
  obtain ⟨h1, rfl⟩ := uy5 hj
  rw [wje h.sj (hm j h1)]
  exact Int.le_refl _
theorem wx4 {jobs : List JobD} (hn : ∀ nm, 0 <= uxk jobs nm) (nm : ByteArray) {a b : List uqf} (h : a.Sublist b) : uxl jobs nm a <= uxl jobs nm b := by
 induction h with
 | slnil => exact Int.le_refl _
 | cons x _ ih =>
  simp only [uxl]
  have := hn x.job
  split <;> omega
 | cons_cons x _ ih =>
  simp only [uxl]
  omega
theorem Fine.less {s t : St} (h : Fine s) (hr : t.rev = s.rev) (sj : uq7 JobD.name t.jobs) (jm : ∀ x ∈ t.jobs, x ∈ s.jobs) (nj : t.jobs.length <= s.jobs.length) (sn : uq7 NodeD.name t.nodes) (nm : ∀ x ∈ t.nodes, x ∈ s.nodes) (nn : t.nodes.length <= s.nodes.length)
  (ls : t.leases.Sublist s.leases) (lj : ∀ l ∈ t.leases, ∃ j ∈ t.jobs, j.name = l.job) (ln : ∀ l ∈ t.leases, ∃ n ∈ t.nodes, n.name = l.node) : Fine t where
 rev := hr ▸ h.rev
 nj := zrc nj h.nj
 nl := zrc ls.length_le h.nl
 nn := zrc nn h.nn
 j := fun x hx => h.j x (jm x hx)
 sj := sj
 n := fun x hx => h.n x (nm x hx)
 sn := sn
 l := fun x hx => xx8 (lj x hx) (ln x hx) (uj7 h (ls.subset hx)).2.2
 sl := h.sl.sublist ls
 room := fun x hx => by
  have h1 := h.room x (nm x hx)
  have h2 := vqx (ww6 h sj jm) x.name t.leases
  have h3 := wx4 (vkh h) x.name ls
  omega
theorem Fine.at {s : St} (h : Fine s) {r : Int} (hr : 0 <= r ∧ r <= 1099511627776) : Fine { s with rev := r } := ⟨hr, h.nj, h.nl, h.nn, h.j, h.sj, h.n, h.sn, h.l, h.sl, h.room⟩
def SrvOk (v : Srv) : Prop := Fine v.st ∧ 0 <= v.now ∧ v.now <= 1099511627776
theorem uve {α : Type} {p : α -> Bool} {l : List α} {x : α} : x ∈ l.filter p ↔ x ∈ l ∧ p x = true := List.mem_filter
theorem reqE_ok {q : ReqD} (h : reqE q = 0) : (1 <= q.kind ∧ q.kind <= 9) ∧ uzo q = q ∧ partE q = 0 := by
 unfold reqE at h
 by_cases h1 : 1 <= q.kind ∧ q.kind <= 9
 ·rw [if_pos h1] at h
  by_cases h2 : uzo q = q
  ·rw [if_pos h2] at h; exact ⟨h1, h2, h⟩
  ·rw [if_neg h2] at h; cases h
 ·rw [if_neg h1] at h; cases h
theorem wwv (s : St) (now : Int) (l : uqf) : (uyb s now l).1.rev = s.rev := by
 unfold uyb
 split
 ·rfl
 ·repeat (first | rfl | split)
theorem wxb {s : St} {now : Int} {l : uqf} (h : (uyb s now l).2 = 0) : ∃ j, jobAt s.jobs l.job = some j ∧ hasL NodeD.name s.nodes l.node = true ∧ hasL uqf.job s.leases l.job = false ∧ now < l.till ∧ j.tries ≠ 100 ∧
  (uyb s now l).1 = { s with jobs := s.jobs.set (posL JobD.name s.jobs l.job) (vv5 j), leases := putL uqf.job s.leases l } ∧ uqq (uyb s now l).1 = 0 := by
 unfold uyb at h ⊢
 cases hj : jobAt s.jobs l.job with
 | none => rw [hj] at h; cases h
 | some j =>
  rw [hj] at h
  simp only at h ⊢
  cases h1 : hasL NodeD.name s.nodes l.node
  ·rw [h1] at h; simp at h
  ·cases h2 : hasL uqf.job s.leases l.job
   ·rw [h1, h2] at h
    by_cases h3 : l.till <= now
    ·simp [h3] at h
    ·by_cases h4 : j.tries = 100
     ·simp [h3, h4] at h
     ·simp only [h3, h4, if_false, Bool.true_eq_false, Bool.false_eq_true] at h ⊢
      exact ⟨j, rfl, by first | rfl | trivial, by first | rfl | trivial, by omega, h4, rfl, h⟩
   ·rw [h1, h2] at h; simp at h
theorem xxa (v : Srv) (q : ReqD) : (doW v q).1.st.rev = v.st.rev := by
 unfold doW
 simp only
 repeat (first | rfl | exact wwv _ _ _ | split)
theorem doW_ok {v : Srv} {q : ReqD} (hv : SrvOk v) (hq : reqE q = 0) (h : (doW v q).2 = 0) : SrvOk (doW v q).1 ∧ v.now <= (doW v q).1.now := by
 obtain ⟨hf, hn⟩ := hv
 obtain ⟨hk, _, hp⟩ := reqE_ok hq
 unfold doW at h ⊢
 simp only at h ⊢
 split at h
 ·rename_i c; rw [if_pos c]; exact ⟨⟨(uxm _).1 h, hn⟩, Int.le_refl _⟩
 rename_i c1; rw [if_neg c1]
 split at h
 ·rename_i c; rw [if_pos c]; exact ⟨⟨(uxm _).1 h, hn⟩, Int.le_refl _⟩
 rename_i c2; rw [if_neg c2]
 split at h
 ·rename_i c; rw [if_pos c]
  refine ⟨⟨hf.less rfl (vzw hf.sj _) (fun x hx => ((uvy hf.sj _ x).1 hx).1) (wx1 _ _) hf.sn (fun x hx => hx) (zra _) List.filter_sublist (fun l hl => ?_) (fun l hl => (uj7 hf (uve.1 hl).1).2.1), hn⟩, Int.le_refl _⟩
  obtain ⟨h1, h2⟩ := uve.1 hl
  obtain ⟨j, hj, he⟩ := (uj7 hf h1).1
  exact ⟨j, (uvy hf.sj _ j).2 ⟨hj, by rw [he]; simpa using h2⟩, he⟩
 rename_i c3; rw [if_neg c3]
 split at h
 ·rename_i c; rw [if_pos c]
  refine ⟨⟨hf.less rfl hf.sj (fun x hx => hx) (zra _) (vzw hf.sn _) (fun x hx => ((uvy hf.sn _ x).1 hx).1) (wx1 _ _) List.filter_sublist (fun l hl => (uj7 hf (uve.1 hl).1).1) (fun l hl => ?_), hn⟩, Int.le_refl _⟩
  obtain ⟨h1, h2⟩ := uve.1 hl
  obtain ⟨j, hj, he⟩ := (uj7 hf h1).2.1
  exact ⟨j, (uvy hf.sn _ j).2 ⟨hj, by rw [he]; simpa using h2⟩, he⟩
 rename_i c4; rw [if_neg c4]
 split at h
 ·rename_i c; rw [if_pos c]
  obtain ⟨j, _, _, _, _, _, _, hc⟩ := wxb h
  exact ⟨⟨(uxm _).1 hc, hn⟩, Int.le_refl _⟩
 rename_i c5; rw [if_neg c5]
 split at h
 ·rename_i c; rw [if_pos c]
  have hsub : (takeL uqf.job v.st.leases q.name).Sublist v.st.leases := by
   unfold takeL
   split
   ·exact List.eraseIdx_sublist _ _
   ·exact List.Sublist.refl _
  exact ⟨⟨hf.less rfl hf.sj (fun x hx => hx) (zra _) hf.sn (fun x hx => hx) (zra _) hsub (fun l hl => (uj7 hf (hsub.subset hl)).1) (fun l hl => (uj7 hf (hsub.subset hl)).2.1), hn⟩, Int.le_refl _⟩
 rename_i c6; rw [if_neg c6]
 split at h
 ·rename_i c; rw [if_pos c]
  split at h
  ·cases h
  ·rename_i c'; rw [if_neg c']
   unfold partE at hp
   rw [if_neg c1, if_neg c2, if_neg c5, if_neg (by omega), if_pos c] at hp
   have hw : 0 <= q.n ∧ q.n <= 1099511627776 := by
    cases hw : uq8 q.n 0 1099511627776
    ·rw [hw] at hp; simp at hp
    ·exact uqz.1 hw
   simp only
   exact ⟨⟨hf.less rfl hf.sj (fun x hx => hx) (zra _) hf.sn (fun x hx => hx) (zra _) List.filter_sublist (fun l hl => (uj7 hf (uve.1 hl).1).1) (fun l hl => (uj7 hf (uve.1 hl).1).2.1), by show (0 : Int) <= v.now + q.n; omega, by show v.now + q.n <= 1099511627776; omega⟩, by show v.now <= v.now + q.n; omega⟩
 rename_i c7; rw [if_neg c7]
 exact ⟨⟨hf, hn⟩, Int.le_refl _⟩
theorem doN_ok {v : Srv} {q : ReqD} (hv : SrvOk v) (h : (doN v q).2 = 0) : reqE q = 0 ∧ doN v q = doW v q ∧ SrvOk (doN v q).1 ∧ v.now <= (doN v q).1.now ∧ (doN v q).1.st.rev = v.st.rev := by
 unfold doN at h ⊢
 by_cases hq : reqE q = 0
 ·rw [if_pos hq] at h ⊢
  obtain ⟨h1, h2⟩ := doW_ok hv hq h
  exact ⟨hq, rfl, h1, h2, xxa _ _⟩
 ·rw [if_neg hq] at h; exact absurd h hq
theorem uvw {a b : St} : sameT a b = true ↔ a.jobs = b.jobs ∧ a.nodes = b.nodes ∧ a.leases = b.leases := by unfold sameT; rw [decide_eq_true_iff]
theorem ujc (v : Srv) (q : ReqD) :
  ((doN v q).2 = 0 ∧ sameT v.st (doN v q).1.st = false ∧ 1099511627776 < v.st.rev + 1 ∧ doR v q = ⟨2, none, v⟩) ∨
  ((doN v q).2 = 0 ∧ sameT v.st (doN v q).1.st = false ∧ v.st.rev + 1 <= 1099511627776 ∧ doR v q = ⟨0, some (betw v.st { (doN v q).1.st with rev := v.st.rev + 1 }), ⟨{ (doN v q).1.st with rev := v.st.rev + 1 }, (doN v q).1.now⟩⟩) ∨
  ((doN v q).2 = 0 ∧ sameT v.st (doN v q).1.st = true ∧ doR v q = ⟨0, none, ⟨v.st, (doN v q).1.now⟩⟩) ∨
  ((doN v q).2 ≠ 0 ∧ doR v q = ⟨(doN v q).2, none, v⟩) := by
 unfold doR
 simp only
 by_cases h : (doN v q).2 = 0
 ·cases hs : sameT v.st (doN v q).1.st
  ·by_cases hr : 1099511627776 < v.st.rev + 1
   ·exact .inl ⟨h, rfl, hr, by rw [if_pos ⟨h, rfl⟩, if_pos hr]⟩
   ·exact .inr (.inl ⟨h, rfl, by omega, by rw [if_pos ⟨h, rfl⟩, if_neg hr]⟩)
  ·exact .inr (.inr (.inl ⟨h, rfl, by rw [if_neg (by simp), h, if_pos rfl]⟩))
 ·exact .inr (.inr (.inr ⟨h, by rw [if_neg (by simp [h]), if_neg h]⟩))
theorem vzl {v : Srv} (hv : SrvOk v) (q : ReqD) : SrvOk (doR v q).srv ∧ v.st.rev <= (doR v q).srv.st.rev ∧ (doR v q).srv.st.rev <= v.st.rev + 1 ∧ v.now <= (doR v q).srv.now := by
 have h0 := hv.1.rev
 rcases ujc v q with ⟨_, _, _, he⟩ | ⟨h1, _, h3, he⟩ | ⟨h1, h2, he⟩ | ⟨_, he⟩ <;> rw [he] <;> simp only
 ·exact ⟨hv, Int.le_refl _, by omega, Int.le_refl _⟩
 ·obtain ⟨_, _, ⟨a, b⟩, c, d⟩ := doN_ok hv h1
  exact ⟨⟨a.at ⟨by omega, h3⟩, b⟩, by omega, Int.le_refl _, c⟩
 ·obtain ⟨_, _, ⟨a, b⟩, c, d⟩ := doN_ok hv h1
  exact ⟨⟨hv.1, b⟩, Int.le_refl _, by omega, c⟩
 ·exact ⟨hv, Int.le_refl _, by omega, Int.le_refl _⟩
theorem uwr {v : Srv} {q : ReqD} (h : (doR v q).code ≠ 0) : (doR v q).told = none ∧ (doR v q).srv = v := by
 rcases ujc v q with ⟨_, _, _, he⟩ | ⟨h1, _, h3, he⟩ | ⟨h1, h2, he⟩ | ⟨_, he⟩ <;> rw [he] at h ⊢ <;> simp only at h ⊢ <;> simp at h ⊢
theorem vz7 {v : Srv} {q : ReqD} (h : q.kind = 8 ∨ q.kind = 9) : doW v q = (v, 0) := by
 unfold doW
 simp only
 rw [if_neg (by omega), if_neg (by omega), if_neg (by omega), if_neg (by omega), if_neg (by omega), if_neg (by omega), if_neg (by omega)]
theorem vwh (s : St) : sameT s s = true := uvw.2 ⟨rfl, rfl, rfl⟩
theorem wks {v : Srv} {q : ReqD} (h : q.kind = 8 ∨ q.kind = 9) : (doR v q).told = none ∧ (doR v q).srv = v := by
 by_cases hc : (doR v q).code = 0
 ·have hN : (doN v q).2 = 0 -> doN v q = (v, 0) := fun h' => by
   unfold doN at h' ⊢
   by_cases hq : reqE q = 0
   ·rw [if_pos hq]; exact vz7 h
   ·rw [if_neg hq] at h'; exact absurd h' hq
  rcases ujc v q with ⟨h1, h2, _, he⟩ | ⟨h1, h2, h3, he⟩ | ⟨h1, h2, he⟩ | ⟨h1, he⟩
  ·rw [hN h1, vwh] at h2; cases h2
  ·rw [hN h1, vwh] at h2; cases h2
  ·rw [he, hN h1]; exact ⟨rfl, rfl⟩
  ·rw [he] at hc; exact absurd hc h1
 ·exact uwr hc
def qPut (j : JobD) : ReqD := ⟨1, j, noN, noL, ByteArray.empty, 0⟩
def qDel (nm : ByteArray) : ReqD := ⟨3, noJ, noN, noL, nm, 0⟩
def uvu (l : uqf) : ReqD := ⟨5, noJ, noN, l, ByteArray.empty, 0⟩
def qFree (nm : ByteArray) : ReqD := ⟨6, noJ, noN, noL, nm, 0⟩
def qTick (n : Int) : ReqD := ⟨7, noJ, noN, noL, ByteArray.empty, n⟩
open Go.RowKit
section
variable {w W W' : World} {g : Nat}
theorem GrB.grown {row : Option Nat} (h : GrB w g W) (hg : W.grownBy W' row) (hr : ∀ k, row = some k -> w.heap.size <= k) : GrB w g W' :=
 ⟨hg.os.trans h.os, hg.tape.trans h.tape, hg.output.trans h.output, zrc h.size hg.size, fun k hk hne => (hg.block k (Nat.lt_of_lt_of_le hk h.size) (fun e => by have := hr k e.symm; omega)).trans (h.block k hk hne)⟩
theorem GrB.cell (h : GrB w g W) (i : Nat) (v : Value) : GrB w g (W.setCell ⟨g, i, none⟩ v) :=
 ⟨h.os, h.tape, h.output, by simpa using h.size, fun k hk hne => (Below.heap_setCell _ _ _ k (fun e => hne (by rw [e]))).trans (h.block k hk hne)⟩
theorem GrB.own {base c size : Nat} {E : TypeId} {p : Option Addr} {rows : List (List Value)} (h : GrB w g W) (ho : OwnR w base E size p c rows) (hb : g < base) : OwnR W base E size p c rows :=
 ⟨ho.1, World.ownsRow.kept (row := some g) ho.2 h (.inr (fun h0 => by have := (World.ownsRow.lt ho.2 g h0).1; omega))⟩
theorem GrB.then2 {W2 : World} (h : GrB w g W) (h2 : GrB W g W2) : GrB w g W2 :=
 ⟨h2.os.trans h.os, h2.tape.trans h.tape, h2.output.trans h.output, zrc h.size h2.size, fun k hk hne => (h2.block k (Nat.lt_of_lt_of_le hk h.size) hne).trans (h.block k hk hne)⟩
end
open Go.ChangeShapes Go.WideShapes Go.Deep Go.Joins
def rowQ (q : ReqD) : List Value := [.int .i64 q.kind, .string q.job.name, .int .i64 q.job.prio, .int .i64 q.job.need, .int .i64 q.job.tries, .string q.job.tag, .string q.node.name, .int .i64 q.node.room, .string q.node.zone, .string q.lease.job, .string q.lease.node, .int .i64 q.lease.till, .string q.name, .int .i64 q.n]
def datQ {H : Type} (q : ReqD) : DataW H := .agg [.lit (.int .i64 q.kind), datJ q.job, datN q.node, datL q.lease, .lit (.string q.name.data.toList), .lit (.int .i64 q.n)]
def okQ (q : ReqD) : Prop := i64B q.kind ∧ okJ q.job ∧ okN q.node ∧ okL q.lease ∧ q.name.size <= 9223372036854775807 ∧ i64B q.n
section
variable {H : Type} {enc : TypeId × Value -> H} {w : World} {base : Nat} {spare : Nat -> Bool} {held : Bool}
end
end Go.Proofs.YtibiankbmhdljabGreatDoor
