/-
  Several texts in one: TldP, HubAm, ServW.
-/
import Derived.Test.YtibiankbmhdljaaGreatDoorPkRep
set_option linter.all false
set_option maxHeartbeats 16000000
set_option maxRecDepth 100000
namespace Go.Proofs.YtibiankbmhdljaaGreatDoor
open Go.Proofs.Tryz
theorem uv8 {α : Type} {enc : α -> List UInt8} {l : List α} {m n : Nat} (h : ∀ x ∈ l, (enc x).length <= m) (hl : l.length <= n) (hn : n <= 1000) : (rowsB enc l).length <= 10 + m * n := by
 have h1 := uqk l.length (by omega)
 have h2 : (l.flatMap enc).length <= m * l.length := by
  clear hl h1
  induction l with
  | nil => simp
  | cons a r ih =>
   rw [List.flatMap_cons, zrb, List.length_cons, Nat.mul_succ]
   have := h a (List.mem_cons_self ..)
   have := ih (fun x hx => h x (List.mem_cons_of_mem _ hx))
   omega
 have h3 : m * l.length <= m * n := Nat.mul_le_mul_left m hl
 unfold rowsB
 rw [zrb]
 omega
theorem vk9 {α : Type} {key : α -> ByteArray} {l : List α} (h : uq3 key l) : l.Pairwise (· ≠ ·) :=
 List.Pairwise.imp (fun {a b} hab e => by subst e; rw [uxq] at hab; cases hab) h
theorem uwa {α : Type} [DecidableEq α] {key : α -> ByteArray} {a b : List α} (hb : uq3 key b) {y : α} (h : ∀ x ∈ b, x = y ∨ x ∈ a) : (setOf a b).length <= 1 := by
 have hp : (setOf a b).Pairwise (· ≠ ·) := List.Pairwise.filter _ (vk9 hb)
 exact uye (setOf a b) [y] hp (fun x hx => by
  obtain ⟨h1, h2⟩ := uzo.1 hx
  rcases h x h1 with h3 | h3
  ·exact List.mem_singleton.2 h3
  ·exact absurd h3 h2)
theorem uwc {α : Type} {key : α -> ByteArray} {l : List α} {s : ByteArray} {x : α} (h : x ∈ takeL key l s) : x ∈ l := by
 unfold takeL at h
 split at h
 ·exact List.mem_of_mem_eraseIdx h
 ·exact h
theorem doW_new {v : Srv} (hv : SrvOk v) (q : ReqD) : ∃ (yj : JobD) (yn : NodeD) (yl : uqd), (∀ x ∈ (doW v q).1.st.jobs, x = yj ∨ x ∈ v.st.jobs) ∧ (∀ x ∈ (doW v q).1.st.nodes, x = yn ∨ x ∈ v.st.nodes) ∧ (∀ x ∈ (doW v q).1.st.leases, x = yl ∨ x ∈ v.st.leases) := by
 have F := hv.1
 unfold doW
 by_cases k1 : q.kind = 1
 ·rw [if_pos k1]
  exact ⟨q.job, noN, noL, fun x hx => ((ux6 F.sj q.job x).1 hx).imp id (·.1), fun x hx => .inr hx, fun x hx => .inr hx⟩
 rw [if_neg k1]
 by_cases k2 : q.kind = 2
 ·rw [if_pos k2]
  exact ⟨noJ, q.node, noL, fun x hx => .inr hx, fun x hx => ((ux6 F.sn q.node x).1 hx).imp id (·.1), fun x hx => .inr hx⟩
 rw [if_neg k2]
 by_cases k3 : q.kind = 3
 ·rw [if_pos k3]
  exact ⟨noJ, noN, noL, fun x hx => .inr (uwc hx), fun x hx => .inr hx, fun x hx => .inr (List.mem_filter.1 hx).1⟩
 rw [if_neg k3]
 by_cases k4 : q.kind = 4
 ·rw [if_pos k4]
  exact ⟨noJ, noN, noL, fun x hx => .inr hx, fun x hx => .inr (uwc hx), fun x hx => .inr (List.mem_filter.1 hx).1⟩
 rw [if_neg k4]
 by_cases k5 : q.kind = 5
 ·rw [if_pos k5]
  show ∃ yj yn yl, (∀ x ∈ (uzz v.st v.now q.lease).1.jobs, _) ∧ (∀ x ∈ (uzz v.st v.now q.lease).1.nodes, _) ∧ (∀ x ∈ (uzz v.st v.now q.lease).1.leases, _)
  unfold uzz
  cases hj : jobAt v.st.jobs q.lease.job with
  | none => exact ⟨noJ, noN, noL, fun x hx => .inr hx, fun x hx => .inr hx, fun x hx => .inr hx⟩
  | some j =>
   have triv : ∃ (yj : JobD) (yn : NodeD) (yl : uqd), (∀ x ∈ v.st.jobs, x = yj ∨ x ∈ v.st.jobs) ∧ (∀ x ∈ v.st.nodes, x = yn ∨ x ∈ v.st.nodes) ∧ (∀ x ∈ v.st.leases, x = yl ∨ x ∈ v.st.leases) := ⟨noJ, noN, noL, fun x hx => .inr hx, fun x hx => .inr hx, fun x hx => .inr hx⟩
   simp only []
   by_cases g1 : hasL NodeD.name v.st.nodes q.lease.node = false
   ·rw [if_pos g1]; exact triv
   rw [if_neg g1]
   by_cases g2 : hasL uqd.job v.st.leases q.lease.job = true
   ·rw [if_pos g2]; exact triv
   rw [if_neg g2]
   by_cases g3 : q.lease.till <= v.now
   ·rw [if_pos g3]; exact triv
   rw [if_neg g3]
   by_cases g4 : j.tries = 100
   ·rw [if_pos g4]; exact triv
   rw [if_neg g4]
   refine ⟨uk7 j, noN, q.lease, fun x hx => ?_, fun x hx => .inr hx, fun x hx => ((ux6 F.sl q.lease x).1 hx).imp id (·.1)⟩
   rcases List.mem_or_eq_of_mem_set hx with h | h
   ·exact .inr h
   ·exact .inl h
 rw [if_neg k5]
 by_cases k6 : q.kind = 6
 ·rw [if_pos k6]
  exact ⟨noJ, noN, noL, fun x hx => .inr hx, fun x hx => .inr hx, fun x hx => .inr (uwc hx)⟩
 rw [if_neg k6]
 by_cases k7 : q.kind = 7
 ·rw [if_pos k7]
  by_cases g : 1099511627776 - v.now < q.n
  ·rw [if_pos g]; exact ⟨noJ, noN, noL, fun x hx => .inr hx, fun x hx => .inr hx, fun x hx => .inr hx⟩
  ·rw [if_neg g]; exact ⟨noJ, noN, noL, fun x hx => .inr hx, fun x hx => .inr hx, fun x hx => .inr (List.mem_filter.1 hx).1⟩
 ·rw [if_neg k7]; exact ⟨noJ, noN, noL, fun x hx => .inr hx, fun x hx => .inr hx, fun x hx => .inr hx⟩
theorem vvd {v : Srv} (hv : SrvOk v) {q : ReqD} {d : uq5} (h : (doR v q).told = some d) : d = betw v.st (doR v q).srv.st ∧ uqv v.st = 0 ∧ uqv (doR v q).srv.st = 0 ∧ v.st.rev < (doR v q).srv.st.rev := by
 obtain ⟨_, h2, h3⟩ := vje hv h
 exact ⟨h2, (uxi _).2 hv.1, (uxi _).2 (ujx hv q).1.1, h3⟩
theorem vwb {v : Srv} (hv : SrvOk v) {q : ReqD} {d : uq5} (h : (doR v q).told = some d) : (encD d).length <= 6000 := by
 obtain ⟨hc, _, _⟩ := vje hv h
 obtain ⟨hd, ha, hb, hr⟩ := vvd hv h
 have hE := vjx ha hb hr
 have hD := ukz hE
 obtain ⟨hn, e1, e2, e3, _⟩ := uvq hc
 obtain ⟨_, hw⟩ := vj3 hn
 obtain ⟨yj, yn, yl, n1, n2, n3⟩ := doW_new hv q
 rw [hw] at e1 e2 e3
 rw [<- e1] at n1
 rw [<- e2] at n2
 rw [<- e3] at n3
 have F' := (ujx hv q).1.1
 have l1 := uwa F'.sj n1
 have l2 := uwa F'.sn n2
 have l3 := uwa F'.sl n3
 have F := hv.1
 have g1 := zrc (uzm JobD.name v.st.jobs (doR v q).srv.st.jobs) F.nj
 have g2 := zrc (uzm NodeD.name v.st.nodes (doR v q).srv.st.nodes) (zrc F.nn (by decide : 20 <= 40))
 have g3 := zrc (uzm uqd.job v.st.leases (doR v q).srv.st.leases) F.nl
 rw [hd]
 generalize (doR v q).srv.st = t at *
 generalize hdd : betw v.st t = d' at *
 subst hdd
 obtain ⟨o1, o2, o3, o4, o5, o6, o7, o8⟩ := hD
 have a1 := uv8 (enc := encJ 3) (m := 82) (fun x hx => uys (o3.2 x hx)) (show (betw v.st t).jobs.length <= 1 from l1) (by decide)
 have a2 := uv8 (enc := encN 3) (m := 62) (fun x hx => uyt (o4.2 x hx)) (show (betw v.st t).nodes.length <= 1 from l2) (by decide)
 have a3 := uv8 (enc := encL) (m := 62) (fun x hx => vxe (o5.2 x hx)) (show (betw v.st t).leases.length <= 1 from l3) (by decide)
 have a4 := uv8 (enc := encT) (m := 26) (fun x hx => uxw (o6.2 x hx)) (show (betw v.st t).gj.length <= 40 from g1) (by decide)
 have a5 := uv8 (enc := encT) (m := 26) (fun x hx => uxw (o7.2 x hx)) (show (betw v.st t).gn.length <= 40 from g2) (by decide)
 have a6 := uv8 (enc := encT) (m := 26) (fun x hx => uxw (o8.2 x hx)) (show (betw v.st t).gl.length <= 40 from g3) (by decide)
 have b1 := uqk (betw v.st t).frm.toNat (by have := o1.2; omega)
 have b2 := uqk ((betw v.st t).upto - (betw v.st t).frm).toNat (by have := o2.2; omega)
 unfold encD
 simp only [zrb]
 omega
theorem xqh {v : Srv} (hv : SrvOk v) {q : ReqD} {d : uq5} (h : (doR v q).told = some d) (u : Srv) : chgF u d = [⟨3, 2, encD d⟩] := by
 have hl := vwb hv h
 obtain ⟨hd, ha, hb, hr⟩ := vvd hv h
 have hE : uzs d = 0 := by rw [hd]; exact vjx ha hb hr
 have h0 : encDR d = (encD d, 0) := by unfold encDR; rw [if_neg (by rw [hE]; simp), if_neg (by omega)]
 unfold chgF
 rw [h0, if_pos rfl]
 unfold frF
 rw [if_pos (by unfold encF; rw [if_pos (by unfold goodF; omega), if_neg (by show ¬ 6000 < (encD d).length; omega)])]
theorem wxq {s : ByteArray} (h : s.size <= 16) : (textB s.data.toList).length <= 17 := by
 have hl : s.data.toList.length = s.size := Array.length_toList
 have := ujz s.data.toList.length 0 (by omega)
 unfold textB
 rw [zrb]
 omega
theorem encJ40 {j : JobD} (h : jobE j = 0) : (encJ 3 j).length <= 40 := by
 obtain ⟨⟨h1, h2⟩, h3, h4, h5, h6⟩ := uwn.1 h
 have a1 := wxq (ux4 h1)
 have a2 := wxq (uja h2)
 have a3 := ujz (zigI j.prio).toNat 1 (by unfold zigI; split <;> omega)
 have a4 := ujz j.need.toNat 2 (by omega)
 have a5 := ujz j.tries.toNat 0 (by omega)
 unfold encJ
 rw [if_pos (by decide), if_pos (by decide)]
 simp only [zrb]
 omega
theorem encN40 {n : NodeD} (h : nodeE n = 0) : (encN 3 n).length <= 40 := by
 obtain ⟨⟨h1, h2⟩, h3, h4⟩ := uvc.1 h
 have a1 := wxq (ux4 h1)
 have a2 := wxq (uja h2)
 have a4 := ujz n.room.toNat 2 (by omega)
 unfold encN
 rw [if_pos (by decide)]
 simp only [zrb]
 omega
theorem wqz {s : ByteArray} (h : okTx s.data.toList) : (encT s).length <= 17 := by
 have hl : s.data.toList.length = s.size := Array.length_toList
 exact wxq (by have := h.1; omega)
theorem encL40 {l : uqd} (h : okLs l) (ht : 0 <= l.till ∧ l.till <= 1099511627776) : (encL l).length <= 40 := by
 have a1 := wqz h.1
 have a2 := wqz h.2.1
 have a4 := ujz l.till.toNat 5 (by omega)
 unfold encT at a1 a2
 unfold encL
 simp only [zrb]
 omega
theorem uj0 {α : Type} {enc : α -> List UInt8} {l : List α} {m : Nat} (h : ∀ x ∈ l, (enc x).length <= m) (hl : l.length <= 100) : (rowsB enc l).length <= 1 + m * l.length := by
 have h1 := ujz l.length 0 (by omega)
 have h2 : (l.flatMap enc).length <= m * l.length := by
  clear hl h1
  induction l with
  | nil => simp
  | cons a r ih =>
   rw [List.flatMap_cons, zrb, List.length_cons, Nat.mul_succ]
   have := h a (List.mem_cons_self ..)
   have := ih (fun x hx => h x (List.mem_cons_of_mem _ hx))
   omega
 unfold rowsB
 rw [zrb]
 omega
theorem vx9 {α : Type} (p : α -> Bool) : ∀ (l : List α), (l.filter p).length + (l.filter fun x => !p x).length = l.length
 | [] => rfl
 | a :: r => by
  have := vx9 p r
  cases h : p a
  ·rw [List.filter_cons_of_neg (by simp [h]), List.filter_cons_of_pos (by simp [h])]
   simp only [List.length_cons]; omega
  ·rw [List.filter_cons_of_pos h, List.filter_cons_of_neg (by simp [h])]
   simp only [List.length_cons]; omega
theorem vkc {α : Type} [DecidableEq α] {key : α -> ByteArray} {a b : List α} (hb : uq3 key b) (h : ∀ x ∈ b, x ∈ a) : (uqq key a b).length + b.length <= a.length := by
 have h2 := vx9 (fun x => b.any fun y => decide (key y = key x)) a
 have h3 := uye b (a.filter fun x => b.any fun y => decide (key y = key x)) (vk9 hb) (fun x hx => List.mem_filter.2 ⟨h x hx, List.any_eq_true.2 ⟨x, hx, decide_eq_true rfl⟩⟩)
 unfold uqq
 rw [zre]
 omega
theorem vkd {α : Type} [DecidableEq α] {key : α -> ByteArray} {a b : List α} (hb : uq3 key b) {y : α} (h : ∀ x ∈ b, x = y ∨ x ∈ a) : (uqq key a b).length + b.length <= a.length + 1 := by
 have h2 := vx9 (fun x => b.any fun y => decide (key y = key x)) a
 have h3 := uye b (y :: a.filter fun x => b.any fun y => decide (key y = key x)) (vk9 hb) (fun x hx => by
  rcases h x hx with h1 | h1
  ·exact List.mem_cons.2 (.inl h1)
  ·exact List.mem_cons.2 (.inr (List.mem_filter.2 ⟨h1, List.any_eq_true.2 ⟨x, hx, decide_eq_true rfl⟩⟩)))
 unfold uqq
 rw [zre]
 rw [List.length_cons] at h3
 omega
theorem vzq {α : Type} [DecidableEq α] {a b : List α} (h : ∀ x ∈ b, x ∈ a) : (setOf a b).length = 0 := by
 cases hs : setOf a b with
 | nil => rfl
 | cons x r =>
  have hx : x ∈ setOf a b := by rw [hs]; exact List.mem_cons_self ..
  obtain ⟨h1, h2⟩ := uzo.1 hx
  exact absurd (h x h1) h2
theorem doW_new2 {v : Srv} (hv : SrvOk v) (q : ReqD) :
  (∃ (yj : JobD) (yl : uqd), (∀ x ∈ (doW v q).1.st.jobs, x = yj ∨ x ∈ v.st.jobs) ∧ (∀ x ∈ (doW v q).1.st.nodes, x ∈ v.st.nodes) ∧ (∀ x ∈ (doW v q).1.st.leases, x = yl ∨ x ∈ v.st.leases)) ∨
  (∃ (yn : NodeD), (∀ x ∈ (doW v q).1.st.jobs, x ∈ v.st.jobs) ∧ (∀ x ∈ (doW v q).1.st.nodes, x = yn ∨ x ∈ v.st.nodes) ∧ (∀ x ∈ (doW v q).1.st.leases, x ∈ v.st.leases)) := by
 have F := hv.1
 unfold doW
 by_cases k1 : q.kind = 1
 ·rw [if_pos k1]
  exact .inl ⟨q.job, noL, fun x hx => ((ux6 F.sj q.job x).1 hx).imp id (·.1), fun x hx => hx, fun x hx => .inr hx⟩
 rw [if_neg k1]
 by_cases k2 : q.kind = 2
 ·rw [if_pos k2]
  exact .inr ⟨q.node, fun x hx => hx, fun x hx => ((ux6 F.sn q.node x).1 hx).imp id (·.1), fun x hx => hx⟩
 rw [if_neg k2]
 by_cases k3 : q.kind = 3
 ·rw [if_pos k3]
  exact .inl ⟨noJ, noL, fun x hx => .inr (uwc hx), fun x hx => hx, fun x hx => .inr (List.mem_filter.1 hx).1⟩
 rw [if_neg k3]
 by_cases k4 : q.kind = 4
 ·rw [if_pos k4]
  exact .inl ⟨noJ, noL, fun x hx => .inr hx, fun x hx => uwc hx, fun x hx => .inr (List.mem_filter.1 hx).1⟩
 rw [if_neg k4]
 by_cases k5 : q.kind = 5
 ·rw [if_pos k5]
  show (∃ yj yl, (∀ x ∈ (uzz v.st v.now q.lease).1.jobs, _) ∧ (∀ x ∈ (uzz v.st v.now q.lease).1.nodes, _) ∧ (∀ x ∈ (uzz v.st v.now q.lease).1.leases, _)) ∨ _
  refine .inl ?_
  unfold uzz
  have triv : ∃ (yj : JobD) (yl : uqd), (∀ x ∈ v.st.jobs, x = yj ∨ x ∈ v.st.jobs) ∧ (∀ x ∈ v.st.nodes, x ∈ v.st.nodes) ∧ (∀ x ∈ v.st.leases, x = yl ∨ x ∈ v.st.leases) := ⟨noJ, noL, fun x hx => .inr hx, fun x hx => hx, fun x hx => .inr hx⟩
  cases hj : jobAt v.st.jobs q.lease.job with
  | none => exact triv
  | some j =>
   simp only []
   by_cases g1 : hasL NodeD.name v.st.nodes q.lease.node = false
   ·rw [if_pos g1]; exact triv
   rw [if_neg g1]
   by_cases g2 : hasL uqd.job v.st.leases q.lease.job = true
   ·rw [if_pos g2]; exact triv
   rw [if_neg g2]
   by_cases g3 : q.lease.till <= v.now
   ·rw [if_pos g3]; exact triv
   rw [if_neg g3]
   by_cases g4 : j.tries = 100
   ·rw [if_pos g4]; exact triv
   rw [if_neg g4]
   refine ⟨uk7 j, q.lease, fun x hx => ?_, fun x hx => hx, fun x hx => ((ux6 F.sl q.lease x).1 hx).imp id (·.1)⟩
   rcases List.mem_or_eq_of_mem_set hx with h | h
   ·exact .inr h
   ·exact .inl h
 rw [if_neg k5]
 by_cases k6 : q.kind = 6
 ·rw [if_pos k6]
  exact .inl ⟨noJ, noL, fun x hx => .inr hx, fun x hx => hx, fun x hx => .inr (uwc hx)⟩
 rw [if_neg k6]
 by_cases k7 : q.kind = 7
 ·rw [if_pos k7]
  by_cases g : 1099511627776 - v.now < q.n
  ·rw [if_pos g]; exact .inl ⟨noJ, noL, fun x hx => .inr hx, fun x hx => hx, fun x hx => .inr hx⟩
  ·rw [if_neg g]; exact .inl ⟨noJ, noL, fun x hx => .inr hx, fun x hx => hx, fun x hx => .inr (List.mem_filter.1 hx).1⟩
 ·rw [if_neg k7]; exact .inl ⟨noJ, noL, fun x hx => .inr hx, fun x hx => hx, fun x hx => .inr hx⟩
def sizS (s : St) : Nat := s.jobs.length + s.nodes.length + s.leases.length
theorem xjg {s : St} (F : Fine s) : sizS s <= 100 := by unfold sizS; have := F.nj; have := F.nn; have := F.nl; omega
theorem xjw {v : Srv} (hv : SrvOk v) {q : ReqD} {d : uq5} (h : (doR v q).told = some d) : (encs [(⟨3, 2, encD d⟩ : Fr)]).length + 17 * sizS (doR v q).srv.st <= 150 + 17 * sizS v.st := by
 have hs := vwb hv h
 obtain ⟨hc, _, _⟩ := vje hv h
 obtain ⟨hd, ha, hb, hr⟩ := vvd hv h
 have hD := ukz (vjx ha hb hr)
 obtain ⟨hn, e1, e2, e3, _⟩ := uvq hc
 obtain ⟨_, hw⟩ := vj3 hn
 have hnew := doW_new2 hv q
 rw [hw] at e1 e2 e3
 rw [<- e1, <- e2, <- e3] at hnew
 have F := hv.1
 have F' := (ujx hv q).1.1
 have g1 := zrc (uzm JobD.name v.st.jobs (doR v q).srv.st.jobs) F.nj
 have g2 := zrc (uzm NodeD.name v.st.nodes (doR v q).srv.st.nodes) F.nn
 have g3 := zrc (uzm uqd.job v.st.leases (doR v q).srv.st.leases) F.nl
 have s1 : ∀ x ∈ setOf v.st.jobs (doR v q).srv.st.jobs, (encJ 3 x).length <= 40 := fun x hx => encJ40 (F'.j x (uzo.1 hx).1)
 have s2 : ∀ x ∈ setOf v.st.nodes (doR v q).srv.st.nodes, (encN 3 x).length <= 40 := fun x hx => encN40 (F'.n x (uzo.1 hx).1)
 rw [hd] at hs ⊢
 have s3 : ∀ x ∈ setOf v.st.leases (doR v q).srv.st.leases, (encL x).length <= 40 := fun x hx => encL40 (hD.2.2.2.2.1.2 x hx) (uwp (F'.l x (uzo.1 hx).1)).2.2
 have r1 := F.rev
 have r2 := F'.rev
 have sj := F'.sj
 have sn := F'.sn
 have sl := F'.sl
 generalize (doR v q).srv.st = t at *
 obtain ⟨o1, o2, o3, o4, o5, o6, o7, o8⟩ := hD
 have a4 := uj0 (enc := encT) (m := 17) (l := uqq JobD.name v.st.jobs t.jobs) (fun x hx => wqz (o6.2 x hx)) (by omega)
 have a5 := uj0 (enc := encT) (m := 17) (l := uqq NodeD.name v.st.nodes t.nodes) (fun x hx => wqz (o7.2 x hx)) (by omega)
 have a6 := uj0 (enc := encT) (m := 17) (l := uqq uqd.job v.st.leases t.leases) (fun x hx => wqz (o8.2 x hx)) (by omega)
 have b1 := ujz (betw v.st t).frm.toNat 5 (by show v.st.rev.toNat < _; omega)
 have b2 := ujz ((betw v.st t).upto - (betw v.st t).frm).toNat 5 (by show (t.rev - v.st.rev).toNat < _; omega)
 have hlen : (encD (betw v.st t)).length = (putN (betw v.st t).frm.toNat).length + ((putN ((betw v.st t).upto - (betw v.st t).frm).toNat).length + ((rowsB (encJ 3) (setOf v.st.jobs t.jobs)).length + ((rowsB (encN 3) (setOf v.st.nodes t.nodes)).length + ((rowsB encL (setOf v.st.leases t.leases)).length + ((rowsB encT (uqq JobD.name v.st.jobs t.jobs)).length + ((rowsB encT (uqq NodeD.name v.st.nodes t.nodes)).length + (rowsB encT (uqq uqd.job v.st.leases t.leases)).length)))))) := by
  unfold encD
  simp only [zrb]
  rfl
 have hw1 := ujz (encD (betw v.st t)).length 1 (by omega)
 rw [ukc, ux0]
 show 8 + (putN (encD (betw v.st t)).length).length + (encD (betw v.st t)).length + _ <= _
 unfold sizS
 rcases hnew with ⟨yj, yl, n1, n2, n3⟩ | ⟨yn, n1, n2, n3⟩
 ·have l1 := uwa sj n1
  have l2 := vzq n2
  have l3 := uwa sl n3
  have c1 := vkd sj n1
  have c2 := vkc sn n2
  have c3 := vkd sl n3
  have a1 := uj0 s1 (by omega)
  have a2 := uj0 s2 (by omega)
  have a3 := uj0 s3 (by omega)
  omega
 ·have l1 := vzq n1
  have l2 := uwa sn n2
  have l3 := vzq n3
  have c1 := vkc sj n1
  have c2 := vkd sn n2
  have c3 := vkc sl n3
  have a1 := uj0 s1 (by omega)
  have a2 := uj0 s2 (by omega)
  have a3 := uj0 s3 (by omega)
  omega
def Am (h : HubD) (n : Nat) : Prop := ∀ i, i < 8 -> (encs (h.c i).waits).length + 17 * sizS h.srv.st <= 1700 + 150 * n
theorem am_new {s : St} (F : Fine s) : Am (newH s) 0 := fun i _ => by
 have := xjg F
 show (encs []).length + 17 * sizS s <= _
 rw [uxn]
 simp only [List.length_nil]
 omega
theorem Am.more {h : HubD} {n : Nat} (A : Am h n) : Am h (n + 1) := fun i hi => by have := A i hi; omega
theorem wvz {h : HubD} (hv : SrvOk h.srv) {k i : Nat} (hi : i ≠ k) (q : ReqD) : (encs ((h.asked k q).c i).waits).length + 17 * sizS (h.asked k q).srv.st <= 150 + ((encs (h.c i).waits).length + 17 * sizS h.srv.st) := by
 rw [vxa]
 unfold HubD.asked
 cases ht : (doR h.srv q).told with
 | none =>
  simp only []
  rw [uwd h hi, xqv ht]
  omega
 | some d =>
  simp only []
  have hp := xjw hv ht
  show (encs (if _ then _ else _ : ConnD).waits).length + _ <= _
  rw [uwd h hi]
  split
  ·have : 17 * sizS (doR h.srv q).srv.st <= 150 + 17 * sizS h.srv.st := by omega
   omega
  ·show (encs ((h.c i).waits ++ chgF (doR h.srv q).srv d)).length + _ <= _
   rw [xqh hv ht, uxv, zrb]
   omega
theorem am_send {h : HubD} (W : Whole h) (hv : SrvOk h.srv) {k n : Nat} (hk : k < 8) (A : Am h n) {q : ReqD} (hq : reqE q = 0) : Am (h.send k (encs [reqFr q])) (n + 1) := by
 obtain ⟨_, h2, h3, _⟩ := uwu W hk hq
 intro i hi
 rw [h3, h2]
 by_cases hik : i = k
 ·subst hik
  rw [ujh, uxn]
  have := xjg (ujx hv q).1.1
  simp only [List.length_nil]
  omega
 ·rw [uk6 _ hik]
  have h5 := wvz (h := h.feed k (encs [reqFr q])) hv hik q
  rw [vxa] at h5
  have hf : (h.feed k (encs [reqFr q])).c i = h.c i := uq1 _ _ hik
  rw [hf] at h5
  have h6 := A i hi
  have e1 : (h.feed k (encs [reqFr q])).srv = h.srv := rfl
  rw [e1] at h5
  omega
theorem vzx {h : HubD} (W : Whole h) {k : Nat} (hk : k < 8) {q : ReqD} (hq : reqE q = 0) : newF (h.c k).L (encs [reqFr q]) = [reqFr q] := by
 obtain ⟨hc, fs, hg, hL⟩ := W k hk
 rw [hL, ukc]
 exact (wku hg (ujt hq)).1
theorem am_mid {h : HubD} (W : Whole h) {k n : Nat} (hk : k < 8) (A : Am h n) (hn : n <= 837723144947) {q : ReqD} (hq : reqE q = 0) (m i : Nat) (hi : i < 8) : (encs (((h.feed k (encs [reqFr q])).frames k ((newF (h.c k).L (encs [reqFr q])).take m)).c i).waits).length <= 140737488200000 := by
 have h1 := vw2 h k (encs [reqFr q]) m i
 rw [vzx W hk hq, List.length_singleton] at h1
 rw [vzx W hk hq]
 have h2 := A i hi
 have h3 : h.len i = (encs (h.c i).waits).length := rfl
 omega
theorem xx7 {h : HubD} (W : Whole h) (hv : SrvOk h.srv) {k : Nat} (hk : k < 8) {q : ReqD} (hq : reqE q = 0) : (⟨3, 4, encP (doR h.srv q).code (doR h.srv q).srv.st.rev⟩ : Fr) ∈ h.out k (encs [reqFr q]) := by
 rw [(uwu W hk hq).1]
 exact vqq (h := h.feed k (encs [reqFr q])) hv k q
open Go.RowKit
section
variable {w w' : World} {B g sv : Nat} {fd : Nat -> Nat} {ws : Nat -> Value} {h : HubD} {O : Nat -> Prop}
theorem Own.tch {base c size : Nat} {E : TypeId} {p : Option Addr} {rows : List (List Value)} (hr : Own w base E size p c rows) (T : HTch O w w') (hO : ∀ k cs, Blk w k E cs -> ¬ O k) : Own w' base E size p c rows := by
 refine ⟨hr.1, ?_⟩
 rcases hr.2 with hx | ⟨g, cur, h1, h2, h3, h4⟩
 ·exact .inl hx
 ·exact .inr ⟨g, cur, h1, h2, T.blk h3 (hO g cur h3), h4⟩
theorem SvI.besides {v : Srv} {gv : Nat} (hI : SvI w gv v) (H : HubM w B g sv fd ws h) (T : HTch (uwy g sv fd ws) w w') (hne : sv ≠ gv) : SvI w' gv v := by
 obtain ⟨q1, q2, q3, d1, d2, d3, hM⟩ := hI
 have hno : ¬ uwy g sv fd ws gv := by
  rintro (e | e | ⟨i, hi, e⟩ | ⟨i, hi, e⟩)
  ·exact H.b.ne_ hM.b (by decide) e.symm
  ·exact hne e.symm
  ·exact (H.f i hi).ne_ hM.b (by decide) e.symm
  ·obtain ⟨cs, hb⟩ := (H.q i hi).own e
   exact hb.ne_ hM.b (by decide) rfl
 exact ⟨q1, q2, q3, d1, d2, d3, T.blk hM.b hno, hM.own.j.tch T (fun k cs hb => H.other hb (by decide) (by decide) (by decide) (by decide)), hM.own.n.tch T (fun k cs hb => H.other hb (by decide) (by decide) (by decide) (by decide)), hM.own.l.tch T (fun k cs hb => H.other hb (by decide) (by decide) (by decide) (by decide))⟩
end
def isRep (c r : Int) (y : Fr) : Bool := decide (y.kind = 4) && (decide ((decPR y.pl).2.2 = 0) && (decide ((decPR y.pl).1 = c) && decide ((decPR y.pl).2.1 = r)))
def vz2 (fs : List Fr) (c r : Int) (k : Nat) : Bool := (fs.take k).any (isRep c r)
theorem wzm {fs : List Fr} {c r : Int} {k : Nat} {y : Fr} (hy : fs[k]? = some y) : vz2 fs c r (k + 1) = (vz2 fs c r k || isRep c r y) := by
 unfold vz2
 rw [List.take_add_one, hy, Option.toList_some, List.any_append]
 simp
theorem xxq {c r : Int} {y : Fr} (h : y.kind ≠ 4) : isRep c r y = false := by unfold isRep; rw [decide_eq_false h]; rfl
theorem wkq {c r : Int} {y : Fr} (h : y.kind = 4) {a b : Int} {e : Nat} (hd : decPR y.pl = (a, b, e)) : isRep c r y = (decide (e = 0) && (decide (a = c) && decide (b = r))) := by unfold isRep; rw [decide_eq_true h, hd]; rfl
theorem wwk {h : HubD} (W : Whole h) (hv : SrvOk h.srv) {k : Nat} (hk : k < 8) {q : ReqD} (hq : reqE q = 0) : vz2 (h.out k (encs [reqFr q])) (doR h.srv q).code (doR h.srv q).srv.st.rev (h.out k (encs [reqFr q])).length = true := by
 have hm := xx7 W hv hk hq
 have hr := (vj5 hv q).1
 unfold vz2
 rw [List.take_length]
 refine List.any_eq_true.2 ⟨_, hm, ?_⟩
 rw [wkq rfl (vyx hr)]
 simp
theorem wvh (c : Nat) (r : Int) : (repF c r).length <= 1 := by unfold repF frF; split <;> simp
theorem wvr (v : Srv) : (telF v).length <= 1 := by
 unfold telF
 split
 ·exact wvh _ _
 ·simp
theorem chgF_one (v : Srv) (d : uq5) : (chgF v d).length <= 1 := by
 unfold chgF
 split
 ·unfold frF; split <;> simp
 ·exact wvr v
theorem told_few (h : HubD) (k : Nat) (q : ReqD) : ((h.told k q).c k).waits.length <= (h.c k).waits.length + 2 := by
 have h1 := wvh (doR h.srv q).code (doR h.srv q).srv.st.rev
 have h2 := wvr (doR h.srv q).srv
 unfold HubD.told
 simp only [if_true]
 split
 ·show (((h.c k).waits ++ repF _ _) ++ telF _).length <= _
  simp only [zrb]; omega
 ·show ((h.c k).waits ++ repF _ _).length <= _
  simp only [zrb]; omega
theorem vyn (h : HubD) (k i : Nat) (q : ReqD) : ((h.asked k q).c i).waits.length <= (h.c i).waits.length + (if i = k then 3 else 1) := by
 have ht : ((h.told k q).c i).waits.length <= (h.c i).waits.length + (if i = k then 2 else 0) := by
  by_cases hi : i = k
  ·subst hi; rw [if_pos rfl]; exact told_few h i q
  ·rw [if_neg hi, uwd h hi]; omega
 unfold HubD.asked
 cases hd : (doR h.srv q).told with
 | none => simp only []; split at ht <;> split <;> omega
 | some d =>
  simp only []
  show (if _ then _ else _ : ConnD).waits.length <= _
  have h3 := chgF_one (h.told k q).srv d
  split
  ·split at ht <;> split <;> omega
  ·show (((h.told k q).c i).waits ++ chgF _ d).length <= _
   rw [zrb]
   split at ht <;> split <;> omega
def Fw (h : HubD) (n : Nat) : Prop := ∀ i, i < 8 -> (h.c i).waits.length <= n
theorem xxh {h : HubD} (W : Whole h) {k n : Nat} (hk : k < 8) (A : Fw h n) {q : ReqD} (hq : reqE q = 0) : Fw (h.send k (encs [reqFr q])) (n + 1) ∧ (h.out k (encs [reqFr q])).length <= n + 3 := by
 obtain ⟨h1, h2, _, _⟩ := uwu W hk hq
 have hf : ∀ i, ((h.feed k (encs [reqFr q])).c i).waits = (h.c i).waits := by
  intro i
  by_cases hi : i = k
  ·subst hi; unfold HubD.feed; rw [uqr]
  ·unfold HubD.feed; rw [uq1 _ _ hi]
 refine ⟨fun i hi => ?_, ?_⟩
 ·rw [h2]
  by_cases hik : i = k
  ·subst hik; rw [ujh]; simp
  ·rw [uk6 _ hik]
   have h3 := vyn (h.feed k (encs [reqFr q])) k i q
   rw [hf, if_neg hik] at h3
   have := A i hi
   omega
 ·rw [h1]
  have h3 := vyn (h.feed k (encs [reqFr q])) k k q
  rw [hf, if_pos rfl] at h3
  have := A k hk
  omega
structure Sv (h : HubD) (n : Nat) : Prop where
 v : SrvOk h.srv
 w : Whole h
 a : Am h n
 f : Fw h n
 o : uxs h
theorem Sv.new {s : St} (F : Fine s) : Sv (newH s) 0 := ⟨uz8 F, vx0 s, am_new F, fun i _ => zra _, wz8 s⟩
theorem Sv.more {h : HubD} {n : Nat} (S : Sv h n) : Sv h (n + 1) := ⟨S.v, S.w, S.a.more, fun i hi => Nat.le_succ_of_le (S.f i hi), S.o⟩
theorem Sv.send {h : HubD} {n k : Nat} (S : Sv h n) (hk : k < 8) {q : ReqD} (hq : reqE q = 0) : Sv (h.send k (uq4 q)) (n + 1) ∧ (h.send k (uq4 q)).srv = (doR h.srv q).srv := by
 have e : uq4 q = encs [reqFr q] := by unfold uq4; rw [if_pos hq]
 rw [e]
 obtain ⟨_, _, h3, h4⟩ := uwu S.w hk hq
 exact ⟨⟨by rw [h3]; exact (ujx S.v q).1, h4, am_send S.w S.v hk S.a hq, (xxh S.w hk S.f hq).1, xjc S.o k _⟩, h3⟩
theorem Sv.out {h : HubD} {n k : Nat} (S : Sv h n) (hn : n <= 837723144947) (hk : k < 8) {q : ReqD} (hq : reqE q = 0) :
  (h.out k (uq4 q)).length <= 4398046511104 ∧ (∀ x ∈ h.out k (uq4 q), uzt x) ∧ (h.out k (uq4 q)).length ≠ 0 ∧ vz2 (h.out k (uq4 q)) (doR h.srv q).code (doR h.srv q).srv.st.rev (h.out k (uq4 q)).length = true := by
 have e : uq4 q = encs [reqFr q] := by unfold uq4; rw [if_pos hq]
 rw [e]
 refine ⟨by have := (xxh S.w hk S.f hq).2; omega, fun x hx => (xx9 S.o k _ x hx).1, fun h0 => ?_, wwk S.w S.v hk hq⟩
 have := xx7 S.w S.v hk hq
 rw [List.eq_nil_of_length_eq_zero h0] at this
 cases this
theorem Sv.mid {h : HubD} {n k : Nat} (S : Sv h n) (hn : n <= 837723144947) (hk : k < 8) {q : ReqD} (hq : reqE q = 0) :
  (newF (h.c k).L (uq4 q)).length <= 4398046511104 ∧ ∀ m i, i < 8 -> (encs ((h.mid k (uq4 q) m).c i).waits).length <= 140737488200000 := by
 have e : uq4 q = encs [reqFr q] := by unfold uq4; rw [if_pos hq]
 rw [e]
 exact ⟨by rw [vzx S.w hk hq]; exact (by decide : 1 <= 4398046511104), fun m i hi => am_mid S.w hk S.a hn hq m i hi⟩
end Go.Proofs.YtibiankbmhdljaaGreatDoor
