/-
  Several texts in one: HubP, NewF, CodeP, HubL, HubC, BytP, HubK, PlayP, RepL.
-/
import Derived.Test.YtibiankbmhdljaaGreatDoorPkReqP
import Derived.Test.YtibiankbmhdljaaGreatDoorPkReply
import Derived.Test.YtibiankbmhdljaaGreatDoorPkFeed
set_option linter.all false
set_option maxHeartbeats 16000000
set_option maxRecDepth 100000
namespace Go.Proofs.YtibiankbmhdljaaGreatDoor
open Go.Proofs.Tryz
structure ConnD where
 L : List UInt8
 closed : Bool
 watch : Bool
 waits : List Fr
structure HubD where
 srv : Srv
 c : Nat -> ConnD
def newC : ConnD := ⟨[], false, false, []⟩
def newH (s : St) : HubD := ⟨⟨s, 0⟩, fun _ => newC⟩
def HubD.upd (h : HubD) (k : Nat) (x : ConnD) : HubD := ⟨h.srv, fun i => if i = k then x else h.c i⟩
def frF (k : Nat) (pl : List UInt8) : List Fr := if (encF 3 k pl).2 = 0 then [⟨3, k, pl⟩] else []
def repF (code : Nat) (rev : Int) : List Fr := frF 4 (encPR code rev).1
def telF (v : Srv) : List Fr := if (sfrR 3 v.st).2 ≠ 0 then repF 2 v.st.rev else [⟨3, 1, (encR 3 v.st).1⟩]
def chgF (v : Srv) (d : uq5) : List Fr := if (encDR d).2 = 0 then frF 2 (encDR d).1 else telF v
def ConnD.put (x : ConnD) (fs : List Fr) : ConnD := { x with waits := x.waits ++ fs }
def HubD.app (h : HubD) (k : Nat) (fs : List Fr) : HubD := h.upd k ((h.c k).put fs)
def HubD.close (h : HubD) (k : Nat) (e : Nat) : HubD := h.upd k { (h.c k).put (repF e h.srv.st.rev) with closed := true }
def HubD.changed (h : HubD) (d : uq5) : HubD := ⟨h.srv, fun i => if (h.c i).closed = true ∨ (h.c i).watch = false then h.c i else (h.c i).put (chgF h.srv d)⟩
def HubD.told (h : HubD) (k : Nat) (q : ReqD) : HubD :=
 let r := doR h.srv q
 let x := (h.c k).put (repF r.code r.srv.st.rev)
 ⟨r.srv, fun i => if i = k then (if r.code = 0 ∧ (q.kind = 8 ∨ q.kind = 9) then { x.put (telF r.srv) with watch := x.watch || decide (q.kind = 9) } else x) else h.c i⟩
def HubD.asked (h : HubD) (k : Nat) (q : ReqD) : HubD := match (doR h.srv q).told with
 | none => h.told k q
 | some d => (h.told k q).changed d
def HubD.frame (h : HubD) (k : Nat) (f : Fr) : HubD :=
 if f.ver ≠ 3 ∨ f.kind ≠ 3 then h.close k 1 else
 if (decQR f.pl).2 ≠ 0 then h.close k (decQR f.pl).2 else h.asked k (decQR f.pl).1
def HubD.step (k : Nat) (h : HubD) (f : Fr) : HubD := if (h.c k).closed = true then h else h.frame k f
def HubD.frames (h : HubD) (k : Nat) (fs : List Fr) : HubD := fs.foldl (HubD.step k) h
def newF (L s : List UInt8) : List Fr := (feedF (L ++ s)).out.drop (feedF L).out.length
def HubD.feed (h : HubD) (k : Nat) (s : List UInt8) : HubD := h.upd k { h.c k with L := (h.c k).L ++ s }
def HubD.ended (h : HubD) (k : Nat) (e : Nat) : HubD := if e ≠ 0 ∧ (h.c k).closed = false then h.close k e else h
def HubD.work (h : HubD) (k : Nat) (s : List UInt8) : HubD := ((h.feed k s).frames k (newF (h.c k).L s)).ended k (errF ((h.c k).L ++ s))
def HubD.flush (h : HubD) (k : Nat) : HubD := h.upd k { h.c k with waits := [] }
def HubD.send (h : HubD) (k : Nat) (s : List UInt8) : HubD := if (h.c k).closed = true then h else (h.work k s).flush k
def HubD.out (h : HubD) (k : Nat) (s : List UInt8) : List Fr := if (h.c k).closed = true then [] else ((h.work k s).c k).waits
theorem uqr (h : HubD) (k : Nat) (x : ConnD) : (h.upd k x).c k = x := if_pos rfl
theorem uq1 (h : HubD) {k i : Nat} (x : ConnD) (hi : i ≠ k) : (h.upd k x).c i = h.c i := if_neg hi
theorem wj2 (h : HubD) (k : Nat) (x y : ConnD) : (h.upd k x).upd k y = h.upd k y := by
 unfold HubD.upd
 congr 1
 funext i
 by_cases hi : i = k <;> simp [hi]
theorem ukc (x : Fr) : encs [x] = wireF x.ver x.kind x.pl := by rw [uje, uxn, List.append_nil]
theorem vwy (k : Nat) (pl : List UInt8) : ∀ x ∈ frF k pl, uzt x ∧ x.ver = 3 ∧ x.kind = k := by
 intro x hx
 unfold frF at hx
 split at hx
 ·rename_i h
  simp only [List.mem_singleton] at hx
  subst hx
  unfold encF at h
  by_cases hg : goodF 3 (k : Int)
  ·rw [if_pos hg] at h
   by_cases hl : 6000 < pl.length
   ·rw [if_pos hl] at h; cases h
   ·obtain ⟨_, _, h3, h4⟩ := hg
    exact ⟨⟨⟨by show 1 <= 3; decide, by show 3 <= 3; decide⟩, ⟨by show 1 <= k; omega, by show k <= 4; omega⟩, by show pl.length <= 6000; omega⟩, rfl, rfl⟩
  ·rw [if_neg hg] at h; cases h
 ·cases hx
theorem wkg (k : Nat) (pl : List UInt8) : encs (frF k pl) = (encF 3 k pl).1 := by
 unfold frF
 split
 ·rename_i h
  rw [ukc]
  unfold encF at h ⊢
  by_cases hg : goodF 3 (k : Int)
  ·rw [if_pos hg] at h ⊢
   by_cases hl : 6000 < pl.length
   ·rw [if_pos hl] at h; cases h
   ·rw [if_neg hl]; rfl
  ·rw [if_neg hg] at h; cases h
 ·rename_i h
  rw [uxn]
  unfold encF at h ⊢
  by_cases hg : goodF 3 (k : Int)
  ·rw [if_pos hg] at h ⊢
   by_cases hl : 6000 < pl.length
   ·rw [if_pos hl]
   ·rw [if_neg hl] at h; exact absurd rfl h
  ·rw [if_neg hg]
def OutFr (x : Fr) : Prop := uzt x ∧ x.ver = 3 ∧ x.kind ≠ 3
theorem wzn {k : Nat} (hk : k ≠ 3) (pl : List UInt8) : ∀ x ∈ frF k pl, OutFr x := fun x hx => by
 obtain ⟨h1, h2, h3⟩ := vwy k pl x hx
 exact ⟨h1, h2, by rw [h3]; exact hk⟩
theorem vjr (c : Nat) (r : Int) : ∀ x ∈ repF c r, OutFr x := wzn (by decide) _
theorem sfr_ok {v : Srv} (h : (sfrR 3 v.st).2 = 0) : (encF 3 1 (encR 3 v.st).1).2 = 0 ∧ (sfrR 3 v.st).1 = (encF 3 1 (encR 3 v.st).1).1 := by
 unfold sfrR at h ⊢
 by_cases h0 : (encR 3 v.st).2 ≠ 0
 ·rw [if_pos h0] at h; exact absurd h h0
 ·rw [if_neg h0] at h ⊢; exact ⟨h, rfl⟩
theorem vvc {v : Srv} (h : (sfrR 3 v.st).2 = 0) : telF v = frF 1 (encR 3 v.st).1 := by
 unfold telF frF
 rw [if_neg (by simpa using h), if_pos (show (encF 3 ((1 : Nat) : Int) (encR 3 v.st).1).2 = 0 from (sfr_ok h).1)]
theorem wvs (v : Srv) : ∀ x ∈ telF v, OutFr x := by
 by_cases h : (sfrR 3 v.st).2 = 0
 ·rw [vvc h]; exact wzn (by decide) _
 ·unfold telF; rw [if_pos h]; exact vjr _ _
theorem xq6 {v : Srv} : encs (telF v) = if (sfrR 3 v.st).2 ≠ 0 then encs (repF 2 v.st.rev) else (sfrR 3 v.st).1 := by
 by_cases h : (sfrR 3 v.st).2 = 0
 ·rw [vvc h, wkg, if_neg (by simpa using h), (sfr_ok h).2]; rfl
 ·unfold telF; rw [if_pos h, if_pos h]
theorem chgF_out (v : Srv) (d : uq5) : ∀ x ∈ chgF v d, OutFr x := by
 unfold chgF
 split
 ·exact wzn (by decide) _
 ·exact wvs v
def uxs (h : HubD) : Prop := ∀ i, ∀ x ∈ (h.c i).waits, OutFr x
theorem wq8 {x : ConnD} {fs : List Fr} (h : ∀ f ∈ x.waits, OutFr f) (hf : ∀ f ∈ fs, OutFr f) : ∀ f ∈ (x.put fs).waits, OutFr f := by
 intro f hm
 rcases List.mem_append.1 hm with hm | hm
 ·exact h f hm
 ·exact hf f hm
theorem xjy {h : HubD} (hw : uxs h) (k : Nat) {x : ConnD} (hx : ∀ f ∈ x.waits, OutFr f) : uxs (h.upd k x) := by
 intro i
 by_cases hi : i = k
 ·subst hi; rw [uqr]; exact hx
 ·rw [uq1 _ _ hi]; exact hw i
theorem vwm {h : HubD} (hw : uxs h) (k e : Nat) : uxs (h.close k e) := xjy hw k (wq8 (hw k) (vjr _ _))
theorem wv3 {h : HubD} (hw : uxs h) (d : uq5) : uxs (h.changed d) := by
 intro i
 unfold HubD.changed; dsimp only
 split
 ·exact hw i
 ·exact wq8 (hw i) (chgF_out _ _)
theorem xjv {h : HubD} (hw : uxs h) (k : Nat) (q : ReqD) : uxs (h.told k q) := by
 intro i
 unfold HubD.told; dsimp only
 split
 ·split
  ·exact wq8 (wq8 (hw k) (vjr _ _)) (wvs _)
  ·exact wq8 (hw k) (vjr _ _)
 ·exact hw i
theorem asked_ok {h : HubD} (hw : uxs h) (k : Nat) (q : ReqD) : uxs (h.asked k q) := by
 unfold HubD.asked
 split
 ·exact xjv hw k q
 ·exact wv3 (xjv hw k q) _
theorem frame_ok {h : HubD} (hw : uxs h) (k : Nat) (f : Fr) : uxs (h.frame k f) := by
 unfold HubD.frame
 split
 ·exact vwm hw k _
 split
 ·exact vwm hw k _
 ·exact asked_ok hw k _
theorem step_ok {h : HubD} (hw : uxs h) (k : Nat) (f : Fr) : uxs (HubD.step k h f) := by
 unfold HubD.step
 split
 ·exact hw
 ·exact frame_ok hw k f
theorem wqd : ∀ {fs : List Fr} {h : HubD} (hw : uxs h) (k : Nat), uxs (h.frames k fs)
 | [], _, hw, _ => hw
 | f :: fs, _, hw, k => wqd (fs := fs) (step_ok hw k f) k
theorem feed_ok {h : HubD} (hw : uxs h) (k : Nat) (s : List UInt8) : uxs (h.feed k s) := xjy hw k (hw k)
theorem ended_ok {h : HubD} (hw : uxs h) (k e : Nat) : uxs (h.ended k e) := by
 unfold HubD.ended
 split
 ·exact vwm hw k e
 ·exact hw
theorem xj2 {h : HubD} (hw : uxs h) (k : Nat) (s : List UInt8) : uxs (h.work k s) := ended_ok (wqd (feed_ok hw k s) k) k _
theorem flush_ok {h : HubD} (hw : uxs h) (k : Nat) : uxs (h.flush k) := xjy hw k (by intro f hf; cases hf)
theorem xjc {h : HubD} (hw : uxs h) (k : Nat) (s : List UInt8) : uxs (h.send k s) := by
 unfold HubD.send
 split
 ·exact hw
 ·exact flush_ok (xj2 hw k s) k
theorem xx9 {h : HubD} (hw : uxs h) (k : Nat) (s : List UInt8) : ∀ x ∈ h.out k s, OutFr x := by
 unfold HubD.out
 split
 ·intro x hx; cases hx
 ·exact xj2 hw k s k
theorem wz8 (s : St) : uxs (newH s) := fun i x hx => by cases hx
theorem vxa (h : HubD) (k : Nat) (q : ReqD) : (h.asked k q).srv = (doR h.srv q).srv := by
 unfold HubD.asked
 split <;> rfl
theorem xxg {h : HubD} (hv : SrvOk h.srv) (k : Nat) (f : Fr) : SrvOk (h.frame k f).srv := by
 unfold HubD.frame
 split
 ·exact hv
 split
 ·exact hv
 ·rw [vxa]; exact (ujx hv _).1
theorem step_srv {h : HubD} (hv : SrvOk h.srv) (k : Nat) (f : Fr) : SrvOk (HubD.step k h f).srv := by
 unfold HubD.step
 split
 ·exact hv
 ·exact xxg hv k f
theorem vzb : ∀ {fs : List Fr} {h : HubD} (hv : SrvOk h.srv) (k : Nat), SrvOk (h.frames k fs).srv
 | [], _, hv, _ => hv
 | f :: fs, _, hv, k => vzb (fs := fs) (step_srv hv k f) k
theorem xq7 (h : HubD) (k e : Nat) : (h.ended k e).srv = h.srv := by
 unfold HubD.ended
 split <;> rfl
theorem work_srv {h : HubD} (hv : SrvOk h.srv) (k : Nat) (s : List UInt8) : SrvOk (h.work k s).srv := by
 unfold HubD.work
 rw [xq7]
 exact vzb (h := h.feed k s) hv k
theorem vye {h : HubD} (hv : SrvOk h.srv) (k : Nat) (s : List UInt8) : SrvOk (h.send k s).srv := by
 unfold HubD.send
 split
 ·exact hv
 ·exact work_srv hv k s
theorem newF_app (L s : List UInt8) (h : ∃ outs, (feedF L).out ++ outs = (feedF (L ++ s)).out) : (feedF L).out ++ newF L s = (feedF (L ++ s)).out := by
 obtain ⟨outs, h⟩ := h
 unfold newF
 rw [<- h, List.drop_left]
theorem xxa (L s : List UInt8) : ∃ outs, (feedF L).out ++ outs = (feedF (L ++ s)).out := by
 rw [uv1]
 by_cases h : (feedF L).e = 3
 ·rw [if_pos h]; exact ⟨_, rfl⟩
 ·rw [if_neg h]; exact ⟨[], List.append_nil _⟩
theorem vkw (L s : List UInt8) : (feedF L).out ++ newF L s = (feedF (L ++ s)).out := newF_app L s (xxa L s)
theorem vqx {L s : List UInt8} {outs : List Fr} (h : (feedF L).out ++ outs = (feedF (L ++ s)).out) : outs = newF L s := by
 have := vkw L s
 rw [<- h] at this
 exact (List.append_cancel_left this).symm
theorem wku {fs : List Fr} (hg : ∀ x ∈ fs, uzt x) {y : Fr} (hy : uzt y) : newF (encs fs) (wireF y.ver y.kind y.pl) = [y] ∧ errF (encs fs ++ wireF y.ver y.kind y.pl) = 0 := by
 have h1 := uw8 fs hg
 have h2 := uw8 (fs ++ [y]) (fun x hx => by
  rcases List.mem_append.1 hx with hx | hx
  ·exact hg x hx
  ·rw [List.mem_singleton.1 hx]; exact hy)
 have he : encs (fs ++ [y]) = encs fs ++ wireF y.ver y.kind y.pl := by rw [uxv, ukc]
 rw [he] at h2
 refine ⟨(vqx (by rw [h1, h2])).symm, ?_⟩
 unfold errF
 rw [h2, if_pos rfl]
theorem uy5 {fs gs : List Fr} (hg : ∀ x ∈ fs, uzt x) (hy : ∀ x ∈ gs, uzt x) : newF (encs fs) (encs gs) = gs ∧ errF (encs fs ++ encs gs) = 0 := by
 have h1 := uw8 fs hg
 have h2 := uw8 (fs ++ gs) (fun x hx => by
  rcases List.mem_append.1 hx with hx | hx
  ·exact hg x hx
  ·exact hy x hx)
 rw [uxv] at h2
 refine ⟨(vqx (by rw [h1, h2])).symm, ?_⟩
 unfold errF
 rw [h2, if_pos rfl]
theorem xxs (j : JobD) : jobE j <= 9 := by unfold jobE; split <;> (try split) <;> decide
theorem wkv (j : NodeD) : nodeE j <= 9 := by unfold nodeE; split <;> (try split) <;> decide
theorem xxx (js : List JobD) (ns : List NodeD) (l : uqd) : uzf js ns l <= 9 := by unfold uzf; split <;> (try split) <;> decide
theorem xxw (l : uqd) : ux3 l <= 9 := by unfold ux3; (repeat' split) <;> decide
theorem vjs {α : Type} {key : α -> ByteArray} {chk : α -> Nat} (h : ∀ x, chk x <= 9) : ∀ (l : List α) (p : Option α), rowsE key chk p l <= 9
 | [], _ => by unfold rowsE; decide
 | x :: r, p => by
  unfold rowsE
  split
  ·exact h x
  split
  ·decide
  ·exact vjs h r _
theorem vyu (s : St) : uqv s <= 9 := by
 unfold uqv
 (repeat' split)
 all_goals first | decide | exact vjs xxs _ _ | exact vjs wkv _ _ | exact vjs (xxx _ _) _ _
theorem partE_le (q : ReqD) : partE q <= 9 := by
 unfold partE
 (repeat' split)
 all_goals first | decide | exact xxs _ | exact wkv _ | exact xxw _
theorem xz3 (q : ReqD) : reqE q <= 9 := by
 unfold reqE
 (repeat' split)
 all_goals first | decide | exact partE_le _
theorem wqe (s : St) (n : Int) (l : uqd) : (uzz s n l).2 <= 9 := by
 unfold uzz
 (repeat' split)
 all_goals first | (show _ <= 9; dsimp only; decide) | (dsimp only; exact vyu _) | (dsimp only; omega)
theorem doW_le (v : Srv) (q : ReqD) : (doW v q).2 <= 9 := by
 unfold doW
 (repeat' split)
 all_goals first | (dsimp only; decide) | (dsimp only; exact vyu _) | exact wqe _ _ _ | (dsimp only; exact wqe _ _ _) | (dsimp only; split <;> decide) | (simp only; split <;> (dsimp only; decide))
theorem doN_le (v : Srv) (q : ReqD) : (doN v q).2 <= 9 := by
 unfold doN
 split
 ·exact doW_le v q
 ·exact xz3 q
theorem xqu (v : Srv) (q : ReqD) : (doR v q).code <= 9 := by
 rcases uz5 v q with ⟨_, _, _, h⟩ | ⟨_, _, _, h⟩ | ⟨_, _, h⟩ | ⟨_, h⟩ <;> rw [h]
 ·show _ <= 9; dsimp only; decide
 ·show _ <= 9; dsimp only; decide
 ·show _ <= 9; dsimp only; decide
 ·exact doN_le v q
theorem repF_is {c : Nat} {r : Int} (hc : c <= 10) (hr : 0 <= r ∧ r <= 1099511627776) : uzj (c : Int) r = true ∧ repF c r = [⟨3, 4, encP c r⟩] := by
 have h1 : uzj (c : Int) r = true := uvg.2 ⟨⟨by omega, by omega⟩, hr⟩
 refine ⟨h1, ?_⟩
 have h2 : (encPR c r).1 = encP c r := by unfold encPR; rw [if_pos h1]
 have hl : (encP c r).length <= 20 := by
  unfold encP
  rw [zrb]
  have a := uqk (c : Int).toNat (by omega)
  have b := uqk r.toNat (by omega)
  omega
 unfold repF frF
 rw [h2, if_pos (by unfold encF; rw [if_pos (by unfold goodF; omega), if_neg (by omega)])]
theorem vj5 {v : Srv} (hv : SrvOk v) (q : ReqD) : uzj ((doR v q).code : Int) (doR v q).srv.st.rev = true ∧ repF (doR v q).code (doR v q).srv.st.rev = [⟨3, 4, encP (doR v q).code (doR v q).srv.st.rev⟩] :=
 repF_is (zrc (xqu v q) (by decide)) (ujx hv q).1.1.rev
def reqFr (q : ReqD) : Fr := ⟨3, 3, encQ q⟩
theorem ujt {q : ReqD} (h : reqE q = 0) : uzt (reqFr q) := ⟨⟨by show 1 <= 3; decide, by show 3 <= 3; decide⟩, ⟨by show 1 <= 3; decide, by show 3 <= 4; decide⟩, zrc (vjf h) (by decide)⟩
theorem vkb {q : ReqD} (h : reqE q = 0) (H : HubD) (k : Nat) : H.frame k (reqFr q) = H.asked k q := by
 unfold HubD.frame
 rw [if_neg (by simp [reqFr])]
 show (if (decQR (encQ q)).2 ≠ 0 then _ else H.asked k (decQR (encQ q)).1) = _
 rw [xqo h, if_neg (by simp)]
theorem uw2 (h : HubD) (k : Nat) (q : ReqD) (i : Nat) : ((h.asked k q).c i).closed = (h.c i).closed ∧ ((h.asked k q).c i).L = (h.c i).L := by
 have ht : ∀ i, ((h.told k q).c i).closed = (h.c i).closed ∧ ((h.told k q).c i).L = (h.c i).L := by
  intro i
  show (if _ then _ else _ : ConnD).closed = _ ∧ (if _ then _ else _ : ConnD).L = _
  by_cases hi : i = k
  ·subst hi
   simp only [if_true]
   split <;> exact ⟨rfl, rfl⟩
  ·simp only [if_neg hi]; exact ⟨trivial, trivial⟩
 unfold HubD.asked
 split
 ·exact ht i
 ·show (if _ then _ else _ : ConnD).closed = _ ∧ (if _ then _ else _ : ConnD).L = _
  split
  ·exact ht i
  ·exact ht i
def Whole (h : HubD) : Prop := ∀ i, i < 8 -> (h.c i).closed = false ∧ ∃ fs, (∀ x ∈ fs, uzt x) ∧ (h.c i).L = encs fs
theorem vx0 (s : St) : Whole (newH s) := fun i _ => ⟨rfl, [], by simp, rfl⟩
theorem work_req {h : HubD} (W : Whole h) {k : Nat} (hk : k < 8) {q : ReqD} (hq : reqE q = 0) : h.work k (encs [reqFr q]) = (h.feed k (encs [reqFr q])).asked k q := by
 obtain ⟨hc, fs, hg, hL⟩ := W k hk
 have h1 := wku hg (ujt hq)
 have hf0 : ((h.feed k (encs [reqFr q])).c k).closed = false := by unfold HubD.feed; rw [uqr]; exact hc
 unfold HubD.work
 rw [hL, ukc, h1.1, h1.2]
 rw [ukc] at hf0
 unfold HubD.frames HubD.ended
 rw [if_neg (by simp)]
 show HubD.step k _ _ = _
 unfold HubD.step
 rw [if_neg (by rw [hf0]; simp), vkb hq]
theorem uwu {h : HubD} (W : Whole h) {k : Nat} (hk : k < 8) {q : ReqD} (hq : reqE q = 0) :
  h.out k (encs [reqFr q]) = (((h.feed k (encs [reqFr q])).asked k q).c k).waits ∧ h.send k (encs [reqFr q]) = ((h.feed k (encs [reqFr q])).asked k q).flush k ∧ (h.send k (encs [reqFr q])).srv = (doR h.srv q).srv ∧ Whole (h.send k (encs [reqFr q])) := by
 have hw := work_req W hk hq
 have hc := (W k hk).1
 have h2 : h.send k (encs [reqFr q]) = ((h.feed k (encs [reqFr q])).asked k q).flush k := by unfold HubD.send; rw [if_neg (by rw [hc]; simp), hw]
 refine ⟨by unfold HubD.out; rw [if_neg (by rw [hc]; simp), hw], h2, by rw [h2]; show ((h.feed k _).asked k q).srv = _; rw [vxa]; rfl, fun i hi => ?_⟩
 rw [h2]
 have ha := uw2 (h.feed k (encs [reqFr q])) k q i
 have hfl : ((((h.feed k (encs [reqFr q])).asked k q).flush k).c i).closed = (((h.feed k (encs [reqFr q])).asked k q).c i).closed ∧ ((((h.feed k (encs [reqFr q])).asked k q).flush k).c i).L = (((h.feed k (encs [reqFr q])).asked k q).c i).L := by
  unfold HubD.flush
  by_cases hik : i = k
  ·subst hik; rw [uqr]; exact ⟨rfl, rfl⟩
  ·rw [uq1 _ _ hik]; exact ⟨rfl, rfl⟩
 rw [hfl.1, hfl.2, ha.1, ha.2]
 obtain ⟨hci, fs, hg, hL⟩ := W i hi
 unfold HubD.feed
 by_cases hik : i = k
 ·subst hik
  rw [uqr]
  refine ⟨hci, fs ++ [reqFr q], fun x hx => ?_, by rw [uxv, hL]⟩
  rcases List.mem_append.1 hx with hx | hx
  ·exact hg x hx
  ·rw [List.mem_singleton.1 hx]; exact ujt hq
 ·rw [uq1 _ _ hik]
  exact ⟨hci, fs, hg, hL⟩
theorem vqq {h : HubD} (hv : SrvOk h.srv) (k : Nat) (q : ReqD) : (⟨3, 4, encP (doR h.srv q).code (doR h.srv q).srv.st.rev⟩ : Fr) ∈ ((h.asked k q).c k).waits := by
 have hr := (vj5 hv q).2
 have ht : (⟨3, 4, encP (doR h.srv q).code (doR h.srv q).srv.st.rev⟩ : Fr) ∈ ((h.told k q).c k).waits := by
  unfold HubD.told
  simp only [if_true]
  split
  ·refine List.mem_append.2 (.inl (List.mem_append.2 (.inr ?_)))
   rw [hr]; exact List.mem_singleton.2 rfl
  ·refine List.mem_append.2 (.inr ?_)
   rw [hr]; exact List.mem_singleton.2 rfl
 unfold HubD.asked
 split
 ·exact ht
 ·show _ ∈ (if _ then _ else _ : ConnD).waits
  split
  ·exact ht
  ·exact List.mem_append.2 (.inl ht)
theorem uwd (h : HubD) {k i : Nat} (hi : i ≠ k) (q : ReqD) : (h.told k q).c i = h.c i := if_neg hi
theorem wx5 {h : HubD} {k i : Nat} (hi : i ≠ k) (hw : (h.c i).watch = false) (q : ReqD) : (h.asked k q).c i = h.c i := by
 unfold HubD.asked
 split
 ·exact uwd h hi q
 ·show (if _ then _ else _) = _
  rw [uwd h hi q, if_pos (.inr hw)]
theorem wzo {h : HubD} {k i : Nat} (hi : i ≠ k) (hw : (h.c i).watch = false) (f : Fr) : (h.frame k f).c i = h.c i := by
 unfold HubD.frame
 split
 ·exact uq1 _ _ hi
 split
 ·exact uq1 _ _ hi
 ·exact wx5 hi hw _
theorem uw9 {k i : Nat} (hi : i ≠ k) : ∀ (fs : List Fr) {h : HubD} (hw : (h.c i).watch = false), (h.frames k fs).c i = h.c i
 | [], _, _ => rfl
 | f :: fs, h, hw => by
  have h1 : (HubD.step k h f).c i = h.c i := by
   unfold HubD.step
   split
   ·rfl
   ·exact wzo hi hw f
  show ((HubD.step k h f).frames k fs).c i = _
  rw [uw9 hi fs (by rw [h1]; exact hw), h1]
theorem wzi (h : HubD) {k i : Nat} (hi : i ≠ k) (e : Nat) : (h.ended k e).c i = h.c i := by
 unfold HubD.ended
 split
 ·exact uq1 _ _ hi
 ·rfl
theorem vv8 {h : HubD} {k i : Nat} (hi : i ≠ k) (hw : (h.c i).watch = false) (s : List UInt8) : (h.send k s).c i = h.c i := by
 unfold HubD.send
 split
 ·rfl
 ·unfold HubD.flush HubD.work
  rw [uq1 _ _ hi, wzi _ hi]
  have hf : (h.feed k s).c i = h.c i := uq1 _ _ hi
  rw [uw9 hi _ (by rw [hf]; exact hw), hf]
theorem uk6 (h : HubD) {k i : Nat} (hi : i ≠ k) : (h.flush k).c i = h.c i := uq1 _ _ hi
theorem ujh (h : HubD) (k : Nat) : ((h.flush k).c k).waits = [] := by unfold HubD.flush; rw [uqr]
theorem xxv {s : St} {k : Nat} {l : List UInt8} (h0 : (decF l).e ≠ 0) (h3 : (decF l).e ≠ 3) : (newH s).work k l = ((newH s).feed k l).close k (decF l).e := by
 have hf := uk5 l h0
 have hn : newF [] l = [] := by unfold newF; rw [List.nil_append, hf]; rfl
 have he : errF ([] ++ l) = (decF l).e := by unfold errF; rw [List.nil_append, hf, if_neg h3]
 unfold HubD.work
 show (((newH s).feed k l).frames k (newF [] l)).ended k (errF ([] ++ l)) = _
 rw [hn, he]
 unfold HubD.frames HubD.ended
 rw [List.foldl_nil, if_pos ⟨h0, by unfold HubD.feed; rw [uqr]; rfl⟩]
structure PreH (k : Nat) (p : List Fr) (a b : HubD) : Prop where
 srv : a.srv = b.srv
 o : ∀ i, i ≠ k -> a.c i = b.c i
 cl : (a.c k).closed = (b.c k).closed
 wt : (a.c k).watch = (b.c k).watch
 ws : (a.c k).waits = p ++ (b.c k).waits
section
variable {k : Nat} {p : List Fr} {a b : HubD}
theorem PreH.upd (h : PreH k p a b) {x y : ConnD} (hc : x.closed = y.closed) (hw : x.watch = y.watch) (hs : x.waits = p ++ y.waits) : PreH k p (a.upd k x) (b.upd k y) :=
 ⟨h.srv, fun i hi => by rw [uq1 _ _ hi, uq1 _ _ hi]; exact h.o i hi, by rw [uqr, uqr]; exact hc, by rw [uqr, uqr]; exact hw, by rw [uqr, uqr]; exact hs⟩
theorem PreH.put_ws (h : PreH k p a b) (fs : List Fr) : ((a.c k).put fs).waits = p ++ ((b.c k).put fs).waits := by
 show (a.c k).waits ++ fs = p ++ ((b.c k).waits ++ fs)
 rw [h.ws, zrh]
theorem PreH.close (h : PreH k p a b) (e : Nat) : PreH k p (a.close k e) (b.close k e) := by
 unfold HubD.close
 rw [h.srv]
 exact h.upd rfl h.wt (h.put_ws _)
theorem PreH.told (h : PreH k p a b) (q : ReqD) : PreH k p (a.told k q) (b.told k q) := by
 unfold HubD.told
 rw [h.srv]
 refine ⟨rfl, fun i hi => by simp only [if_neg hi]; exact h.o i hi, ?_, ?_, ?_⟩
 ·simp only [if_true]; split <;> exact h.cl
 ·simp only [if_true]
  split
  ·show ((a.c k).watch || _) = ((b.c k).watch || _); rw [h.wt]
  ·exact h.wt
 ·simp only [if_true]
  split
  ·show ((a.c k).waits ++ _) ++ _ = p ++ (((b.c k).waits ++ _) ++ _); rw [h.ws]; simp only [zrh]
  ·exact h.put_ws _
theorem PreH.changed (h : PreH k p a b) (d : uq5) : PreH k p (a.changed d) (b.changed d) := by
 unfold HubD.changed
 rw [h.srv]
 refine ⟨rfl, fun i hi => by simp only [h.o i hi], ?_, ?_, ?_⟩
 ·simp only [h.cl, h.wt]; split <;> exact h.cl
 ·simp only [h.cl, h.wt]; split <;> exact h.wt
 ·simp only [h.cl, h.wt]
  split
  ·exact h.ws
  ·exact h.put_ws _
theorem PreH.asked (h : PreH k p a b) (q : ReqD) : PreH k p (a.asked k q) (b.asked k q) := by
 unfold HubD.asked
 rw [h.srv]
 split
 ·exact h.told q
 ·exact (h.told q).changed _
theorem PreH.frame (h : PreH k p a b) (f : Fr) : PreH k p (a.frame k f) (b.frame k f) := by
 unfold HubD.frame
 split
 ·exact h.close _
 split
 ·exact h.close _
 ·exact h.asked _
theorem PreH.step (h : PreH k p a b) (f : Fr) : PreH k p (HubD.step k a f) (HubD.step k b f) := by
 unfold HubD.step
 rw [h.cl]
 split
 ·exact h
 ·exact h.frame f
theorem PreH.frames : ∀ (fs : List Fr) {a b : HubD}, PreH k p a b -> PreH k p (a.frames k fs) (b.frames k fs)
 | [], _, _, h => h
 | f :: fs, _, _, h => PreH.frames fs (h.step f)
theorem PreH.ended (h : PreH k p a b) (e : Nat) : PreH k p (a.ended k e) (b.ended k e) := by
 unfold HubD.ended
 rw [h.cl]
 split
 ·exact h.close e
 ·exact h
theorem PreH.flush (h : PreH k p a b) : PreH k [] (a.flush k) (b.flush k) := by
 unfold HubD.flush
 refine ⟨h.srv, fun i hi => by rw [uq1 _ _ hi, uq1 _ _ hi]; exact h.o i hi, by rw [uqr, uqr]; exact h.cl, by rw [uqr, uqr]; exact h.wt, by rw [uqr, uqr]; rfl⟩
end
theorem xzj (h : HubD) (k : Nat) (s t : List UInt8) : PreH k [] (h.feed k s) (h.feed k t) := by
 unfold HubD.feed
 exact ⟨rfl, fun i hi => by rw [uq1 _ _ hi, uq1 _ _ hi], by rw [uqr, uqr], by rw [uqr, uqr], by rw [uqr, uqr]; rfl⟩
theorem vvs (h : HubD) (k : Nat) (a b : List Fr) : h.frames k (a ++ b) = (h.frames k a).frames k b := by unfold HubD.frames; rw [List.foldl_append]
theorem vxg {k : Nat} : ∀ (fs : List Fr) {h : HubD}, (h.c k).closed = true -> h.frames k fs = h
 | [], _, _ => rfl
 | f :: fs, h, hc => by
  show (HubD.step k h f).frames k fs = h
  have : HubD.step k h f = h := by unfold HubD.step; rw [if_pos hc]
  rw [this]
  exact vxg fs hc
theorem wzb (h : HubD) (k e i : Nat) : ((h.close k e).c i).L = (h.c i).L := by
 unfold HubD.close
 by_cases hi : i = k
 ·subst hi; rw [uqr]; rfl
 ·rw [uq1 _ _ hi]
theorem frame_L (h : HubD) (k : Nat) (f : Fr) (i : Nat) : ((h.frame k f).c i).L = (h.c i).L := by
 unfold HubD.frame
 split
 ·exact wzb _ _ _ _
 split
 ·exact wzb _ _ _ _
 ·exact (uw2 h k _ i).2
theorem wkl {k : Nat} : ∀ (fs : List Fr) (h : HubD) (i : Nat), ((h.frames k fs).c i).L = (h.c i).L
 | [], _, _ => rfl
 | f :: fs, h, i => by
  show (((HubD.step k h f).frames k fs).c i).L = _
  rw [wkl fs]
  unfold HubD.step
  split
  ·rfl
  ·exact frame_L h k f i
theorem newF_cut (L s t : List UInt8) : newF L (s ++ t) = newF L s ++ newF (L ++ s) t := by
 have h1 := vkw L s
 have h2 := vkw (L ++ s) t
 rw [<- h1, zrh, zrh] at h2
 exact (vqx h2).symm
theorem wwe {L : List UInt8} (h : errF L ≠ 0) (t : List UInt8) : errF (L ++ t) = errF L ∧ newF L t = [] := by
 have he : (feedF L).e ≠ 3 := by
  intro e
  unfold errF at h
  rw [if_pos e] at h
  exact h rfl
 have hm := uv1 L t
 rw [if_neg he] at hm
 refine ⟨by unfold errF; rw [hm], ?_⟩
 have := vkw L t
 rw [hm] at this
 have h2 := congrArg List.length this
 rw [zrb] at h2
 exact List.eq_nil_of_length_eq_zero (by omega)
structure SameH (k : Nat) (a b : HubD) : Prop where
 p : PreH k [] a b
 L : (b.c k).closed = false -> (a.c k).L = (b.c k).L
theorem uyu (h : HubD) (k : Nat) : h.ended k 0 = h := by unfold HubD.ended; rw [if_neg (by simp)]
theorem vvn {h : HubD} {k : Nat} (hc : (h.c k).closed = true) (e : Nat) : h.ended k e = h := by unfold HubD.ended; rw [if_neg (by rw [hc]; simp)]
theorem wqa {h : HubD} {k e : Nat} (he : e ≠ 0) : ((h.ended k e).c k).closed = true := by
 unfold HubD.ended
 by_cases hc : (h.c k).closed = false
 ·rw [if_pos ⟨he, hc⟩]; unfold HubD.close; rw [uqr]
 ·rw [if_neg (fun h => hc h.2)]; simpa using hc
theorem ended_L (h : HubD) (k e i : Nat) : ((h.ended k e).c i).L = (h.c i).L := by
 unfold HubD.ended
 split
 ·exact wzb _ _ _ _
 ·rfl
theorem wxy (h : HubD) (k : Nat) (s : List UInt8) : ((h.work k s).c k).L = (h.c k).L ++ s := by
 unfold HubD.work
 rw [ended_L, wkl]
 unfold HubD.feed
 rw [uqr]
theorem uwi (h : HubD) (k : Nat) : (h.flush k).c k = { h.c k with waits := [] } := by unfold HubD.flush; rw [uqr]
theorem send_cut {h : HubD} {k : Nat} (hc : (h.c k).closed = false) (s t : List UInt8) :
  h.out k (s ++ t) = h.out k s ++ (h.send k s).out k t ∧ SameH k (h.send k (s ++ t)) ((h.send k s).send k t) := by
 have hN := newF_cut (h.c k).L s t
 have hP0 : PreH k [] ((h.feed k (s ++ t)).frames k (newF (h.c k).L s)) ((h.feed k s).frames k (newF (h.c k).L s)) := PreH.frames _ (xzj h k _ _)
 have hw : h.work k (s ++ t) = (((h.feed k (s ++ t)).frames k (newF (h.c k).L s)).frames k (newF ((h.c k).L ++ s) t)).ended k (errF ((h.c k).L ++ s ++ t)) := by
  unfold HubD.work
  rw [hN, vvs, zrh]
 have hs : h.work k s = ((h.feed k s).frames k (newF (h.c k).L s)).ended k (errF ((h.c k).L ++ s)) := rfl
 have o1 : h.out k (s ++ t) = ((h.work k (s ++ t)).c k).waits := by unfold HubD.out; rw [if_neg (by rw [hc]; simp)]
 have o2 : h.out k s = ((h.work k s).c k).waits := by unfold HubD.out; rw [if_neg (by rw [hc]; simp)]
 have n1 : h.send k (s ++ t) = (h.work k (s ++ t)).flush k := by unfold HubD.send; rw [if_neg (by rw [hc]; simp)]
 have n2 : h.send k s = (h.work k s).flush k := by unfold HubD.send; rw [if_neg (by rw [hc]; simp)]
 have hL2 := wxy h k s
 have hL1 := wxy h k (s ++ t)
 -- what is shut after the first piece stays so
 have shut : ∀ (hw2 : h.work k (s ++ t) = h.work k (s ++ t)), PreH k [] (h.work k (s ++ t)) (h.work k s) -> ((h.work k s).c k).closed = true ->
   h.out k (s ++ t) = h.out k s ++ (h.send k s).out k t ∧ SameH k (h.send k (s ++ t)) ((h.send k s).send k t) := by
  intro _ hp hcl
  have hcl2 : ((h.send k s).c k).closed = true := by rw [n2, uwi]; exact hcl
  have e1 : (h.send k s).out k t = [] := by unfold HubD.out; rw [if_pos hcl2]
  have e2 : (h.send k s).send k t = h.send k s := if_pos hcl2
  rw [e1, e2, List.append_nil, o1, o2, hp.ws, n1, n2]
  exact ⟨rfl, hp.flush, fun h0 => by rw [uwi] at h0; rw [hcl] at h0; cases h0⟩
 by_cases he : errF ((h.c k).L ++ s) = 0
 ·rw [he, uyu] at hs
  by_cases hcl : ((h.work k s).c k).closed = true
  ·refine shut rfl ?_ hcl
   rw [hs] at hcl ⊢
   have hx : (((h.feed k (s ++ t)).frames k (newF (h.c k).L s)).c k).closed = true := by rw [hP0.cl]; exact hcl
   rw [hw, vxg _ hx, vvn hx]
   exact hP0
  ·have hcl : ((h.work k s).c k).closed = false := by simpa using hcl
   have hg : ((h.send k s).c k).closed = false := by rw [n2, uwi]; exact hcl
   have hgL : ((h.send k s).c k).L = (h.c k).L ++ s := by rw [n2, uwi]; exact hL2
   have hP1 : PreH k ((h.work k s).c k).waits ((h.feed k (s ++ t)).frames k (newF (h.c k).L s)) ((h.send k s).feed k t) := by
    rw [n2]
    rw [<- hs] at hP0
    have hu : ((h.work k s).flush k).feed k t = (h.work k s).upd k { (h.work k s).c k with L := ((h.work k s).c k).L ++ t, waits := [] } := by
     unfold HubD.flush HubD.feed
     rw [wj2, uqr]
    rw [hu]
    exact ⟨hP0.srv, fun i hi => by rw [uq1 _ _ hi]; exact hP0.o i hi, by rw [uqr]; exact hP0.cl, by rw [uqr]; exact hP0.wt, by rw [uqr]; have := hP0.ws; rw [List.nil_append] at this; rw [this, List.append_nil]⟩
   have hP2 : PreH k ((h.work k s).c k).waits (h.work k (s ++ t)) ((h.send k s).work k t) := by
    rw [hw]
    conv => arg 4; unfold HubD.work
    rw [hgL]
    exact (PreH.frames _ hP1).ended _
   have e1 : (h.send k s).out k t = (((h.send k s).work k t).c k).waits := by unfold HubD.out; rw [if_neg (by rw [hg]; simp)]
   have e2 : (h.send k s).send k t = ((h.send k s).work k t).flush k := if_neg (by rw [hg]; simp)
   rw [e1, e2, o1, o2, n1]
   refine ⟨hP2.ws, hP2.flush, fun _ => ?_⟩
   rw [uwi, uwi]
   show ((h.work k (s ++ t)).c k).L = (((h.send k s).work k t).c k).L
   rw [hL1, wxy, hgL, zrh]
 ·obtain ⟨h1, h2⟩ := wwe he t
  refine shut rfl ?_ (by rw [hs]; exact wqa he)
  rw [hw, h1, h2, hs]
  exact hP0.ended _
theorem SameH.refl (k : Nat) (h : HubD) : SameH k h h := ⟨⟨rfl, fun _ _ => rfl, rfl, rfl, rfl⟩, fun _ => rfl⟩
theorem SameH.trans {k : Nat} {a b c : HubD} (h : SameH k a b) (g : SameH k b c) : SameH k a c :=
 ⟨⟨h.p.srv.trans g.p.srv, fun i hi => (h.p.o i hi).trans (g.p.o i hi), h.p.cl.trans g.p.cl, h.p.wt.trans g.p.wt, by have := h.p.ws; rw [List.nil_append] at this; rw [this]; exact g.p.ws⟩,
  fun hc => (h.L (by rw [g.p.cl]; exact hc)).trans (g.L hc)⟩
theorem SameH.send {k : Nat} {a b : HubD} (h : SameH k a b) (s : List UInt8) : a.out k s = b.out k s ∧ SameH k (a.send k s) (b.send k s) := by
 cases hc : (b.c k).closed with
 | true =>
  have ha : (a.c k).closed = true := by rw [h.p.cl]; exact hc
  unfold HubD.out HubD.send
  rw [if_pos ha, if_pos hc, if_pos ha, if_pos hc]
  exact ⟨rfl, h⟩
 | false =>
  have ha : (a.c k).closed = false := by rw [h.p.cl]; exact hc
  have hL := h.L hc
  have hf : PreH k [] (a.feed k s) (b.feed k s) := by
   unfold HubD.feed
   exact ⟨h.p.srv, fun i hi => by rw [uq1 _ _ hi, uq1 _ _ hi]; exact h.p.o i hi, by rw [uqr, uqr]; exact h.p.cl, by rw [uqr, uqr]; exact h.p.wt, by rw [uqr, uqr]; exact h.p.ws⟩
  have hw : PreH k [] (a.work k s) (b.work k s) := by
   unfold HubD.work
   rw [hL]
   exact (PreH.frames _ hf).ended _
  unfold HubD.out HubD.send
  rw [if_neg (by rw [ha]; simp), if_neg (by rw [hc]; simp), if_neg (by rw [ha]; simp), if_neg (by rw [hc]; simp)]
  refine ⟨hw.ws, hw.flush, fun _ => ?_⟩
  rw [uwi, uwi]
  show ((a.work k s).c k).L = ((b.work k s).c k).L
  rw [wxy, wxy, hL]
def outsH (k : Nat) : HubD -> List (List UInt8) -> List Fr
 | _, [] => []
 | h, s :: r => h.out k s ++ outsH k (h.send k s) r
def uw1 (k : Nat) (h : HubD) (ps : List (List UInt8)) : HubD := ps.foldl (fun h s => h.send k s) h
theorem vvy (k : Nat) : ∀ (ps : List (List UInt8)) (h : HubD) (s : List UInt8), outsH k h (ps ++ [s]) = outsH k h ps ++ (uw1 k h ps).out k s
 | [], h, s => by simp [outsH, uw1]
 | p :: r, h, s => by
  show h.out k p ++ outsH k (h.send k p) (r ++ [s]) = (h.out k p ++ outsH k (h.send k p) r) ++ _
  rw [vvy k r, zrh]
  rfl
theorem xjf {h : HubD} {k : Nat} (hc : (h.c k).closed = false) : ∀ (ps : List (List UInt8)) (p : List UInt8), outsH k h (p :: ps) = h.out k (p ++ ps.flatten) ∧ SameH k (h.send k (p ++ ps.flatten)) (uw1 k h (p :: ps)) := by
 have main : ∀ (n : Nat) (ps : List (List UInt8)), ps.length = n -> ∀ p : List UInt8, outsH k h (p :: ps) = h.out k (p ++ ps.flatten) ∧ SameH k (h.send k (p ++ ps.flatten)) (uw1 k h (p :: ps)) := by
  intro n
  induction n with
  | zero =>
   intro ps hp p
   obtain rfl := List.eq_nil_of_length_eq_zero hp
   have e : p ++ ([] : List (List UInt8)).flatten = p := by simp
   rw [e]
   exact ⟨by simp [outsH], SameH.refl _ _⟩
  | succ n ih =>
   intro ps hp p
   obtain ⟨r, s, rfl⟩ : ∃ r s, ps = r ++ [s] := ⟨ps.dropLast, ps.getLast (by intro h0; rw [h0] at hp; cases hp), (List.dropLast_concat_getLast _).symm⟩
   obtain ⟨h1, h2⟩ := ih r (by simpa using hp) p
   have h3 := send_cut hc (p ++ r.flatten) s
   have h4 := h2.send s
   have e : p ++ (r ++ [s]).flatten = p ++ r.flatten ++ s := by simp
   have e2 : uw1 k h (p :: (r ++ [s])) = (uw1 k h (p :: r)).send k s := by unfold uw1; rw [<- List.cons_append, List.foldl_append]; rfl
   rw [<- List.cons_append, vvy, h1, List.cons_append, e, e2, h3.1, h4.1]
   exact ⟨rfl, h3.2.trans h4.2⟩
 exact fun ps p => main ps.length ps rfl p
def uq4 (q : ReqD) : List UInt8 := if reqE q = 0 then encs [reqFr q] else []
theorem ujo (q : ReqD) : (uq4 q).length <= 130 := by
 unfold uq4
 split
 ·rename_i h
  have := vjf h
  have h2 := uqk (encQ q).length (by omega)
  rw [ukc, ux0]
  have h3 : (reqFr q).pl = encQ q := rfl
  rw [h3]
  omega
 ·simp
theorem vji (k : Nat) (pl : List UInt8) : (encs (frF k pl)).length <= 6018 := by
 have h := vww (frF k pl) (fun x hx => (vwy k pl x hx).1)
 have h1 : (frF k pl).length <= 1 := by unfold frF; split <;> simp
 omega
theorem wxc (c : Nat) (r : Int) : (encs (repF c r)).length <= 6018 := vji _ _
theorem wxp (v : Srv) : (encs (telF v)).length <= 6018 := by
 by_cases h : (sfrR 3 v.st).2 = 0
 ·rw [vvc h]; exact vji _ _
 ·unfold telF; rw [if_pos h]; exact vji _ _
theorem xqg (v : Srv) (d : uq5) : (encs (chgF v d)).length <= 6018 := by
 unfold chgF
 split
 ·exact vji _ _
 ·exact wxp _
theorem vk0 (x : ConnD) (fs : List Fr) : (encs (x.put fs).waits).length = (encs x.waits).length + (encs fs).length := by
 show (encs (x.waits ++ fs)).length = _
 rw [uxv, zrb]
def HubD.len (h : HubD) (i : Nat) : Nat := (encs (h.c i).waits).length
theorem upd_len (h : HubD) (k : Nat) (x : ConnD) (i n : Nat) (hx : (encs x.waits).length <= h.len k + n) : (h.upd k x).len i <= h.len i + n := by
 unfold HubD.len
 by_cases hi : i = k
 ·subst hi; rw [uqr]; exact hx
 ·rw [uq1 _ _ hi]; omega
theorem vj0 (h : HubD) (k e i : Nat) : (h.close k e).len i <= h.len i + 6018 := by
 refine upd_len h k _ i 6018 ?_
 show (encs ((h.c k).put (repF e h.srv.st.rev)).waits).length <= _
 rw [vk0]
 have := wxc e h.srv.st.rev
 unfold HubD.len
 omega
theorem wx9 (h : HubD) (d : uq5) (i : Nat) : (h.changed d).len i <= h.len i + 6018 := by
 unfold HubD.changed HubD.len
 simp only
 split
 ·omega
 ·rw [vk0]
  have := xqg h.srv d
  omega
theorem told_len (h : HubD) (k : Nat) (q : ReqD) (i : Nat) : (h.told k q).len i <= h.len i + 12036 := by
 unfold HubD.told HubD.len
 simp only
 by_cases hi : i = k
 ·subst hi
  rw [if_pos rfl]
  have h1 := wxc (doR h.srv q).code (doR h.srv q).srv.st.rev
  have h2 := wxp (doR h.srv q).srv
  split
  ·show (encs (((h.c i).put _).put _).waits).length <= _
   rw [vk0, vk0]; omega
  ·rw [vk0]; omega
 ·rw [if_neg hi]; omega
theorem wy8 (h : HubD) (k : Nat) (q : ReqD) (i : Nat) : (h.asked k q).len i <= h.len i + 18054 := by
 have h1 := told_len h k q i
 unfold HubD.asked
 split
 ·omega
 ·rename_i d _
  have h2 := wx9 (h.told k q) d i
  omega
theorem step_len (h : HubD) (k : Nat) (f : Fr) (i : Nat) : (HubD.step k h f).len i <= h.len i + 18054 := by
 unfold HubD.step
 split
 ·omega
 ·unfold HubD.frame
  split
  ·have := vj0 h k 1 i; omega
  split
  ·have := vj0 h k (decQR f.pl).2 i; omega
  ·exact wy8 h k _ i
theorem vza (k : Nat) : ∀ (fs : List Fr) (h : HubD) (i : Nat), (h.frames k fs).len i <= h.len i + fs.length * 18054
 | [], h, i => by show h.len i <= _; omega
 | f :: r, h, i => by
  have h1 := vza k r (HubD.step k h f) i
  have h2 := step_len h k f i
  show ((HubD.step k h f).frames k r).len i <= _
  rw [List.length_cons]
  omega
theorem wki (h : HubD) (k : Nat) (s : List UInt8) (i : Nat) : (h.feed k s).len i = h.len i := by
 unfold HubD.feed HubD.len
 by_cases hi : i = k
 ·subst hi; rw [uqr]
 ·rw [uq1 _ _ hi]
theorem wvw (h : HubD) (k : Nat) (s : List UInt8) (i : Nat) : (h.work k s).len i <= h.len i + (newF (h.c k).L s).length * 18054 + 6018 := by
 unfold HubD.work
 have h1 := vza k (newF (h.c k).L s) (h.feed k s) i
 rw [wki] at h1
 unfold HubD.ended
 split
 ·have h2 := vj0 ((h.feed k s).frames k (newF (h.c k).L s)) k (errF ((h.c k).L ++ s)) i
  omega
 ·omega
theorem xxf (h : HubD) (k i : Nat) : (h.flush k).len i <= h.len i := by
 unfold HubD.flush HubD.len
 by_cases hi : i = k
 ·subst hi; rw [uqr]; simp [uxn]
 ·rw [uq1 _ _ hi]; exact zra _
theorem send_len (h : HubD) (k : Nat) (s : List UInt8) (i : Nat) : (h.send k s).len i <= h.len i + (newF (h.c k).L s).length * 18054 + 6018 := by
 unfold HubD.send
 split
 ·omega
 ·exact zrc (xxf _ _ _) (wvw h k s i)
theorem vjn (L s : List UInt8) : (newF L s).length <= s.length + 6020 := by
 have hm := uv1 L s
 have h := vkw L s
 rw [hm] at h
 by_cases he : (feedF L).e = 3
 ·rw [if_pos he] at h
  have h2 := List.append_cancel_left h
  rw [h2]
  have h3 := wkh (L.drop (feedF L).n ++ s)
  have h4 := vvo L he
  rw [zrb] at h3
  omega
 ·rw [if_neg he] at h
  have h2 : newF L s = [] := by
   have := congrArg List.length h
   rw [zrb] at this
   exact List.eq_nil_of_length_eq_zero (by omega)
  rw [h2]; simp
structure ActP where
 k : Option Nat
 s : List UInt8
structure PlayD where
 h : HubD
 o : Nat -> List Fr
def actP (a : PlayD) (x : ActP) : PlayD := match x.k with
 | none => a
 | some k => ⟨a.h.send k x.s, fun i => if i = k then a.o k ++ a.h.out k x.s else a.o i⟩
def playP (s : St) (l : List ActP) : PlayD := l.foldl actP ⟨newH s, fun _ => []⟩
def playF (s : St) (l : List ActP) (k : Nat) : List Fr := (playP s l).o k ++ ((playP s l).h.c k).waits
theorem ww5 (s : St) (l : List ActP) (x : ActP) : playP s (l ++ [x]) = actP (playP s l) x := by unfold playP; rw [List.foldl_append]; rfl
structure vyk (a : PlayD) : Prop where
 w : uxs a.h
 v : SrvOk a.h.srv
 o : ∀ k, ∀ x ∈ a.o k, OutFr x
theorem actP_ok {a : PlayD} (h : vyk a) (x : ActP) : vyk (actP a x) := by
 unfold actP
 cases x.k with
 | none => exact h
 | some k =>
  refine ⟨xjc h.w k _, vye h.v k _, fun i y hy => ?_⟩
  simp only at hy
  by_cases hi : i = k
  ·rw [if_pos hi] at hy
   rcases List.mem_append.1 hy with hy | hy
   ·exact h.o k y hy
   ·exact xx9 h.w k _ y hy
  ·rw [if_neg hi] at hy; exact h.o i y hy
theorem vw6 {s : St} (F : Fine s) (l : List ActP) : vyk (playP s l) := by
 have hg : ∀ (l : List ActP) (a : PlayD), vyk a -> vyk (l.foldl actP a) := by
  intro l
  induction l with
  | nil => intro a h; exact h
  | cons x r ih => intro a h; exact ih _ (actP_ok h x)
 exact hg l _ ⟨wz8 s, ⟨F, by show (0 : Int) <= 0; decide, by show (0 : Int) <= 1099511627776; decide⟩, fun k x hx => by cases hx⟩
theorem playF_ok {s : St} (F : Fine s) (l : List ActP) (k : Nat) : ∀ x ∈ playF s l k, OutFr x := fun x hx => by
 rcases List.mem_append.1 hx with hx | hx
 ·exact (vw6 F l).o k x hx
 ·exact (vw6 F l).w k x hx
def byK (k : Nat) (ps : List (List UInt8)) : List ActP := ps.map fun p => ⟨some k, p⟩
theorem wk8 (s : St) (k : Nat) : ∀ (ps : List (List UInt8)), (playP s (byK k ps)).h = uw1 k (newH s) ps ∧ (playP s (byK k ps)).o k = outsH k (newH s) ps ∧ ∀ i, i ≠ k -> (playP s (byK k ps)).o i = [] := by
 have main : ∀ (ps : List (List UInt8)) (a : PlayD), ((byK k ps).foldl actP a).h = uw1 k a.h ps ∧ ((byK k ps).foldl actP a).o k = a.o k ++ outsH k a.h ps ∧ ∀ i, i ≠ k -> ((byK k ps).foldl actP a).o i = a.o i := by
  intro ps
  induction ps with
  | nil => intro a; exact ⟨rfl, (List.append_nil _).symm, fun _ _ => rfl⟩
  | cons p r ih =>
   intro a
   obtain ⟨h1, h2, h3⟩ := ih (actP a ⟨some k, p⟩)
   refine ⟨h1, ?_, fun i hi => ?_⟩
   ·show ((byK k r).foldl actP (actP a ⟨some k, p⟩)).o k = _
    rw [h2]
    show (if k = k then a.o k ++ a.h.out k p else a.o k) ++ _ = a.o k ++ (a.h.out k p ++ outsH k (a.h.send k p) r)
    rw [if_pos rfl, zrh]
    rfl
   ·show ((byK k r).foldl actP (actP a ⟨some k, p⟩)).o i = _
    rw [h3 i hi]
    show (if i = k then _ else a.o i) = _
    rw [if_neg hi]
 intro ps
 obtain ⟨h1, h2, h3⟩ := main ps ⟨newH s, fun _ => []⟩
 exact ⟨h1, by rw [<- List.nil_append (outsH k (newH s) ps)]; exact h2, h3⟩
theorem wyl {h : HubD} {k : Nat} (hw : (h.c k).waits = []) (s : List UInt8) : ((h.send k s).c k).waits = [] := by
 unfold HubD.send
 split
 ·exact hw
 ·exact ujh _ _
theorem vq3 {k : Nat} : ∀ (ps : List (List UInt8)) {h : HubD}, (h.c k).waits = [] -> ((uw1 k h ps).c k).waits = []
 | [], _, hw => hw
 | p :: r, h, hw => vq3 r (h := h.send k p) (wyl hw p)
theorem vq4 {k i : Nat} (hi : i ≠ k) : ∀ (ps : List (List UInt8)) {h : HubD}, (h.c i).watch = false -> (uw1 k h ps).c i = h.c i
 | [], _, _ => rfl
 | p :: r, h, hw => by
  have h1 := vv8 hi hw p
  show (uw1 k (h.send k p) r).c i = _
  rw [vq4 hi r (by rw [h1]; exact hw), h1]
theorem xzg (s : St) (k : Nat) (p : List UInt8) (ps : List (List UInt8)) (i : Nat) : playF s (byK k (p :: ps)) i = playF s (byK k [p ++ ps.flatten]) i := by
 have a := wk8 s k (p :: ps)
 have b := wk8 s k [p ++ ps.flatten]
 have hc : ((newH s).c k).closed = false := rfl
 obtain ⟨c1, c2⟩ := xjf hc ps p
 unfold playF
 by_cases hi : i = k
 ·subst hi
  rw [a.1, a.2.1, b.1, b.2.1, c1, vq3 _ rfl, vq3 _ rfl]
  show _ = ((newH s).out i (p ++ ps.flatten) ++ []) ++ []
  simp
 ·rw [a.1, a.2.2 i hi, b.1, b.2.2 i hi, vq4 hi _ rfl, vq4 hi _ rfl]
def vxs (v : Srv) (qs : List ReqD) : Srv := qs.foldl (fun v q => (doR v q).srv) v
def repD : Srv -> List ReqD -> List (Nat × Int)
 | _, [] => []
 | v, q :: r => ((doR v q).code, (doR v q).srv.st.rev) :: repD (doR v q).srv r
def repFr (x : Nat × Int) : Fr := ⟨3, 4, encP x.1 x.2⟩
theorem wxn : ∀ (qs : List ReqD) {v : Srv}, SrvOk v -> SrvOk (vxs v qs)
 | [], _, h => h
 | q :: r, _, h => wxn r (ujx h q).1
theorem vyd : ∀ (qs : List ReqD) {v : Srv}, SrvOk v -> ∀ x ∈ repD v qs, uzj (x.1 : Int) x.2 = true
 | [], _, _, _, hx => by cases hx
 | q :: r, v, h, x, hx => by
  rcases List.mem_cons.1 hx with rfl | hx
  ·exact (vj5 h q).1
  ·exact vyd r (ujx h q).1 x hx
theorem vjq : ∀ (qs : List ReqD) (v : Srv), (repD v qs).length = qs.length
 | [], _ => rfl
 | q :: r, v => by simp [repD, vjq r]
theorem wxb : ∀ (qs : List ReqD) (v : Srv) (q : ReqD), repD v (qs ++ [q]) = repD v qs ++ [((doR (vxs v qs) q).code, (doR (vxs v qs) q).srv.st.rev)]
 | [], _, _ => rfl
 | p :: r, v, q => by
  show _ :: repD _ (r ++ [q]) = (_ :: repD _ r) ++ _
  rw [wxb r]
  rfl
def Still (h : HubD) : Prop := ∀ i, (h.c i).watch = false
theorem vwk {h : HubD} (hw : Still h) (d : uq5) : h.changed d = h := by
 unfold HubD.changed
 have : (fun i => if (h.c i).closed = true ∨ (h.c i).watch = false then h.c i else (h.c i).put (chgF h.srv d)) = h.c := by
  funext i
  rw [if_pos (.inr (hw i))]
 rw [this]
theorem vzw {h : HubD} (k : Nat) {q : ReqD} (hq : ¬(q.kind = 8 ∨ q.kind = 9)) : h.told k q = (⟨(doR h.srv q).srv, h.c⟩ : HubD).app k (repF (doR h.srv q).code (doR h.srv q).srv.st.rev) := by
 unfold HubD.told HubD.app HubD.upd
 simp only [if_neg (fun hc : _ ∧ _ => hq hc.2)]
theorem wx4 {h : HubD} (hw : Still h) (k : Nat) {q : ReqD} (hq : ¬(q.kind = 8 ∨ q.kind = 9)) : h.asked k q = (⟨(doR h.srv q).srv, h.c⟩ : HubD).app k (repF (doR h.srv q).code (doR h.srv q).srv.st.rev) := by
 have hs : Still (h.told k q) := by
  rw [vzw k hq]
  intro i
  unfold HubD.app HubD.upd
  simp only
  by_cases hi : i = k
  ·subst hi; rw [if_pos rfl]; exact hw i
  ·rw [if_neg hi]; exact hw i
 unfold HubD.asked
 split
 ·exact vzw k hq
 ·rw [vwk hs, vzw k hq]
theorem vq1 {k : Nat} : ∀ (qs : List ReqD) {h : HubD}, SrvOk h.srv -> Still h -> (h.c k).closed = false -> (∀ q ∈ qs, reqE q = 0 ∧ ¬(q.kind = 8 ∨ q.kind = 9)) ->
  (h.frames k (qs.map reqFr)).srv = vxs h.srv qs ∧ ((h.frames k (qs.map reqFr)).c k).waits = (h.c k).waits ++ (repD h.srv qs).map repFr ∧ ((h.frames k (qs.map reqFr)).c k).closed = false ∧ Still (h.frames k (qs.map reqFr))
 | [], h, _, hs, hc, _ => ⟨rfl, (List.append_nil _).symm, hc, hs⟩
 | q :: r, h, hv, hs, hc, hq => by
  obtain ⟨h1, h2⟩ := hq q (List.mem_cons_self ..)
  have e : HubD.step k h (reqFr q) = (⟨(doR h.srv q).srv, h.c⟩ : HubD).app k (repF (doR h.srv q).code (doR h.srv q).srv.st.rev) := by
   unfold HubD.step
   rw [if_neg (by rw [hc]; simp), vkb h1, wx4 hs k h2]
  have hr := (vj5 hv q).2
  show ((HubD.step k h (reqFr q)).frames k (r.map reqFr)).srv = _ ∧ (((HubD.step k h (reqFr q)).frames k (r.map reqFr)).c k).waits = _ ∧ (((HubD.step k h (reqFr q)).frames k (r.map reqFr)).c k).closed = false ∧ Still ((HubD.step k h (reqFr q)).frames k (r.map reqFr))
  rw [e]
  have hc2 : (((⟨(doR h.srv q).srv, h.c⟩ : HubD).app k (repF (doR h.srv q).code (doR h.srv q).srv.st.rev)).c k) = (h.c k).put (repF (doR h.srv q).code (doR h.srv q).srv.st.rev) := uqr _ _ _
  have hs2 : Still ((⟨(doR h.srv q).srv, h.c⟩ : HubD).app k (repF (doR h.srv q).code (doR h.srv q).srv.st.rev)) := by
   intro i
   unfold HubD.app HubD.upd
   simp only
   by_cases hi : i = k
   ·subst hi; rw [if_pos rfl]; exact hs i
   ·rw [if_neg hi]; exact hs i
  obtain ⟨g1, g2, g3, g4⟩ := vq1 r (h := (⟨(doR h.srv q).srv, h.c⟩ : HubD).app k (repF (doR h.srv q).code (doR h.srv q).srv.st.rev)) (ujx hv q).1 hs2 (by rw [hc2]; exact hc) (fun x hx => hq x (List.mem_cons_of_mem _ hx))
  refine ⟨g1, ?_, g3, g4⟩
  rw [g2, hc2]
  show ((h.c k).waits ++ repF _ _) ++ _ = _
  rw [hr, zrh]
  rfl
theorem wjq {s : St} (F : Fine s) {k : Nat} {qs : List ReqD} (hq : ∀ q ∈ qs, reqE q = 0 ∧ ¬(q.kind = 8 ∨ q.kind = 9)) : (newH s).out k (encs (qs.map reqFr)) = (repD ⟨s, 0⟩ qs).map repFr := by
 have hg : ∀ x ∈ qs.map reqFr, uzt x := by
  intro x hx
  obtain ⟨q, h1, rfl⟩ := List.mem_map.1 hx
  exact ujt (hq q h1).1
 have hn := uy5 (fs := []) (by simp) hg
 rw [uxn] at hn
 have hc : ((newH s).c k).closed = false := rfl
 unfold HubD.out
 rw [if_neg (by rw [hc]; simp)]
 unfold HubD.work
 show ((((newH s).feed k (encs (qs.map reqFr))).frames k (newF [] (encs (qs.map reqFr)))).ended k (errF ([] ++ encs (qs.map reqFr))) |>.c k).waits = _
 rw [hn.1, hn.2, uyu]
 have hs : Still ((newH s).feed k (encs (qs.map reqFr))) := by
  intro i
  unfold HubD.feed HubD.upd
  simp only
  by_cases hi : i = k
  ·rw [if_pos hi]; rfl
  ·rw [if_neg hi]; rfl
 obtain ⟨_, g2, _, _⟩ := vq1 (k := k) qs (h := (newH s).feed k (encs (qs.map reqFr))) ⟨F, by show (0 : Int) <= 0; decide, by show (0 : Int) <= 1099511627776; decide⟩ hs (by unfold HubD.feed; rw [uqr]; rfl) hq
 rw [g2]
 unfold HubD.feed
 rw [uqr]
 rfl
end Go.Proofs.YtibiankbmhdljaaGreatDoor
