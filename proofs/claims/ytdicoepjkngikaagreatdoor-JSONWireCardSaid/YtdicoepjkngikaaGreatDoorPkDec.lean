/-
  Several texts in one: DecH, DecW.
-/
import Derived.Test.YtdicoepjkngikaaGreatDoorPkTake
import Derived.Test.YtdicoepjkngikaaGreatDoorPkTakeL
import Derived.Test.YtdicoepjkngikaaGreatDoorPkStateB
import Derived.Test.YtdicoepjkngikaaGreatDoorPkStateA
import Derived.Test.YtdicoepjkngikaaGreatDoorPkSample
/-
  What wire.Decode answers; how its steps come together.
-/
set_option linter.unusedVariables false
set_option linter.unusedSimpArgs false
namespace Go.Proofs.YtdicoepjkngikaaGreatDoor
open Go.RowKit
def zeroSt : St := ⟨0, [], [], []⟩
/-- What Decode answers: the state, the error. -/
def decT (v : Int) (l : List UInt8) : St × Nat :=
  if v < 1 ∨ 3 < v then (zeroSt, 1) else match decS v l with
  | .ok s => (s, 0)
  | .bad e => (zeroSt, e)
/-- All that p points at lies from base on. -/
def AboveP (base : Nat) (p : Option Addr) : Prop := ∀ a, p = some a → base ≤ a.block
theorem AboveP.none_ (base : Nat) : AboveP base none := fun _ h => by cases h
theorem ownsRow_form {w : World} {base : Nat} {e : TypeId} {size n : Nat} {v : Value} {xs : List Value} (h : w.ownsRow base e size v n xs) : ∃ p c, v = .slice p n c ∧ AboveP base p := by
  rcases h.2 with ⟨rfl, h0⟩ | ⟨g, cap, cur, rfl, hb, _⟩
  · exact ⟨none, 0, by rw [h0], .none_ _⟩
  · exact ⟨_, cap, rfl, fun a ha => by injection ha with ha; subst ha; exact hb⟩
theorem OwnJ.form {w : World} {base : Nat} {v : Value} {l : List JobD} (h : OwnJ w base v l) : ∃ p c, v = .slice p l.length c ∧ AboveP base p ∧ Elts w w.heap.size 5 p (l.map rowJ) := by
  obtain ⟨p, c, rfl, ha⟩ := ownsRow_form h
  refine ⟨p, c, rfl, ha, ?_⟩
  unfold OwnJ at h
  rw [List.flatMap_def] at h
  have hl : l.length = (l.map rowJ).length := by simp
  rw [hl] at h
  exact .of_own (fun r hr => by obtain ⟨x, _, rfl⟩ := List.mem_map.1 hr; rfl) h
theorem OwnN.form {w : World} {base : Nat} {v : Value} {l : List NodeD} (h : OwnN w base v l) : ∃ p c, v = .slice p l.length c ∧ AboveP base p ∧ Elts w w.heap.size 3 p (l.map rowN) := by
  obtain ⟨p, c, rfl, ha⟩ := ownsRow_form h
  refine ⟨p, c, rfl, ha, ?_⟩
  unfold OwnN at h
  rw [List.flatMap_def] at h
  have hl : l.length = (l.map rowN).length := by simp
  rw [hl] at h
  exact .of_own (fun r hr => by obtain ⟨x, _, rfl⟩ := List.mem_map.1 hr; rfl) h
theorem OwnL.form {w : World} {base : Nat} {v : Value} {l : List LeaseD} (h : OwnL w base v l) : ∃ p c, v = .slice p l.length c ∧ AboveP base p ∧ Elts w w.heap.size 3 p (l.map rowL) := by
  obtain ⟨p, c, rfl, ha⟩ := ownsRow_form h
  refine ⟨p, c, rfl, ha, ?_⟩
  unfold OwnL at h
  rw [List.flatMap_def] at h
  have hl : l.length = (l.map rowL).length := by simp
  rw [hl] at h
  exact .of_own (fun r hr => by obtain ⟨x, _, rfl⟩ := List.mem_map.1 hr; rfl) h
theorem Elts.gra {w w' : World} {B b base size : Nat} {p : Option Addr} {rows : List (List Value)} (h : Elts w B size p rows) (hg : w.grownBy w' (some b)) (hB : B ≤ w.heap.size) (ha : AboveP base p) (hb : b < base) : Elts w' B size p rows :=
  ⟨h.1, fun hn => by
    obtain ⟨a, e, hab, hc⟩ := h.2 hn
    have := ha a e
    exact ⟨a, e, hab, fun k r hr => (hc k r hr).gr hg (by rw [block_of_add]; omega) (by rw [block_of_add]; omega)⟩⟩
theorem grow_setRow (w : World) (g : Nat) (cs : Array Value) : w.grownBy (w.setRow g cs) (some g) :=
  ⟨rfl, rfl, rfl, by simp, fun k hk hne => setRow_other w g k cs (fun h => hne (by rw [h]))⟩
theorem Step.state {v : Int} {l l1 l2 l3 l4 : List UInt8} {x y1 y2 y3 y4 : Nat} {rev : Int} {jobs : List JobD} {nodes : List NodeD} {leases : List LeaseD}
    (h0 : Step (pOpt (decide (2 < v)) pInt 0) l x rev l1 y1) (h1 : Step (pRows 40 (pJob v)) l1 y1 jobs l2 y2) (h2 : Step (pRows 20 (pNode v)) l2 y2 nodes l3 y3) (h3 : Step (pRows 40 pLease) l3 y3 leases l4 y4) :
    Step (pState v) l x ⟨rev, jobs, nodes, leases⟩ l4 y4 :=
  Step.map (fun x : Int × List JobD × List NodeD × List LeaseD => (⟨x.1, x.2.1, x.2.2.1, x.2.2.2⟩ : St))
    (Step.seq (q := fun _ => pSeq (pRows 40 (pJob v)) fun _ => pSeq (pRows 20 (pNode v)) fun _ => pRows 40 pLease) h0
      (Step.seq (q := fun _ => pSeq (pRows 20 (pNode v)) fun _ => pRows 40 pLease) h1 (Step.seq (q := fun _ => pRows 40 pLease) h2 h3 ((pNode_PP v).rows 20 (by decide)).err) ((pJob_PP v).rows 40 (by decide)).err) (PP.opt _ _ pInt_PP).err)
/-- Behind the reading, an error at the end. -/
theorem decT_end {v : Int} {l l' : List UInt8} {s : St} {y : Nat} (hv : 1 ≤ v ∧ v ≤ 3) (h : Step (pState v) l 0 s l' y) (he : endE y l' ≠ 0) : decT v l = (zeroSt, endE y l') := by
  unfold decT
  rw [if_neg (by omega)]
  unfold decS
  cases hp : pState v l with
  | bad z =>
    obtain rfl := (h.2.2 rfl).2 _ hp
    have := (pState_PP v).err _ _ hp
    simp only []
    unfold endE; rw [if_pos this]
  | ok t r =>
    obtain ⟨rfl, rfl, rfl⟩ := (h.2.2 rfl).1 _ _ hp
    unfold endE at he ⊢
    by_cases hl : l' = []
    · rw [if_neg (by simp), if_pos hl] at he; exact absurd rfl he
    · simp only []
      rw [if_pos hl, if_neg (by simp), if_neg hl]
theorem decT_read {v : Int} {l l' : List UInt8} {s : St} {y : Nat} (hv : 1 ≤ v ∧ v ≤ 3) (h : Step (pState v) l 0 s l' y) (he : endE y l' = 0) : okSt v s ∧ decT v l = (if checkE s = 0 then s else zeroSt, checkE s) := by
  have hy : y = 0 ∧ l' = [] := by
    unfold endE at he
    by_cases h1 : y = 0
    · rw [if_neg (by simp [h1])] at he
      refine ⟨h1, ?_⟩
      by_cases h2 : l' = []
      · exact h2
      · rw [if_neg h2] at he; cases he
    · rw [if_pos h1] at he; exact absurd he h1
  obtain ⟨rfl, rfl⟩ := hy
  have hp : pState v l = .ok s [] := by
    cases hp : pState v l with
    | bad z =>
      have h1 := (h.2.2 rfl).2 _ hp
      exact absurd h1.symm ((pState_PP v).err _ _ hp)
    | ok t r =>
      obtain ⟨rfl, rfl, _⟩ := (h.2.2 rfl).1 _ _ hp
      rfl
  refine ⟨((pState_PP v).bwd _ _ _ hp).1, ?_⟩
  unfold decT
  rw [if_neg (by omega)]
  unfold decS
  rw [hp]
  simp only []
  rw [if_neg (by simp)]
  by_cases hc : checkE s = 0
  · rw [if_neg (by simp [hc]), if_pos hc, hc]
  · rw [if_pos hc, if_neg hc]
theorem okTx_sz {s : ByteArray} (h : okTx s.data.toList) : s.size ≤ 16 := by have := h.1; simpa using this
theorem okSt_sz {v : Int} {s : St} (h : okSt v s) : StSz s := by
  obtain ⟨_, ⟨h1, h2⟩, ⟨h3, h4⟩, h5, _⟩ := h
  refine ⟨fun x hx => ?_, fun x hx => ?_, fun x hx => ?_, by omega, by omega, by omega⟩
  · obtain ⟨a, _, _, _, b⟩ := h2 x hx
    refine ⟨Nat.le_trans (okTx_sz a) (by decide), ?_⟩
    split at b
    · exact Nat.le_trans (okTx_sz b) (by decide)
    · rw [b]; decide
  · obtain ⟨a, _, b⟩ := h4 x hx
    refine ⟨Nat.le_trans (okTx_sz a) (by decide), ?_⟩
    split at b
    · exact Nat.le_trans (okTx_sz b) (by decide)
    · rw [b]; decide
  · obtain ⟨_, b, _⟩ := h4 x hx
    have := b.1; have := b.2
    omega
/-- What Decode leaves. -/
def DecPost (w : World) (v : Int) (l : List UInt8) (e : Ending) (w' : World) : Prop :=
  ∃ (s : St) (er : Nat) (p1 p2 p3 : Option Addr) (c1 c2 c3 : Nat), e = .returned (.tuple #[.agg #[.int .i64 s.rev, .slice p1 s.jobs.length c1, .slice p2 s.nodes.length c2, .slice p3 s.leases.length c3], .int .i64 (er : Int)]) ∧
    StM w' w'.heap.size p1 p2 p3 s ∧ (AboveP w.heap.size p1 ∧ AboveP w.heap.size p2 ∧ AboveP w.heap.size p3) ∧ Below w.heap.size w w' ∧ decT v l = (s, er)
theorem stM_zero (w : World) : StM w w.heap.size none none none zeroSt := ⟨.nil_, .nil_, .nil_⟩
theorem decPost_bad {w w' : World} {v : Int} {l : List UInt8} {er : Nat} (hb : Below w.heap.size w w') (hd : decT v l = (zeroSt, er)) :
    DecPost w v l (.returned (.tuple #[.agg #[.int .i64 0, .slice none 0 0, .slice none 0 0, .slice none 0 0], .int .i64 (er : Int)])) w' :=
  ⟨zeroSt, er, none, none, none, 0, 0, 0, rfl, stM_zero w', ⟨.none_ _, .none_ _, .none_ _⟩, hb, hd⟩
end Go.Proofs.YtdicoepjkngikaaGreatDoor

/-
  The contract of wire.Decode. Printed by wip/gen_decw.py.
-/
set_option linter.unusedVariables false
set_option linter.unusedSimpArgs false
namespace Go.Proofs.YtdicoepjkngikaaGreatDoor
open Go.RowKit
theorem blk_new_at {w : World} {n : Nat} (h : w.heap.size = n) (t : TypeId) (cs : Array Value) : Blk (w.alloc (.cells cs t)) n t cs := h ▸ Blk.new w t cs
theorem size_alloc_at {w : World} {n : Nat} (h : w.heap.size = n) (o : Obj) : (w.alloc o).heap.size = n + 1 := by simp [h]
theorem one_st (a : Int) (p1 p2 p3 : Option Addr) (n1 n2 n3 c1 c2 c3 : Nat) : (#[Value.int .i64 a, Value.slice p1 n1 c1, Value.slice p2 n2 c2, Value.slice p3 n3 c3] : Array Value).all (·.oneCell') = true := by simp [Value.oneCell']
def zeroCells : Array Value := #[.int .i64 0, .slice none 0 0, .slice none 0 0, .slice none 0 0]
/-- What Decode has laid: the version, the result, the reader, its pointer, the state. -/
structure DI (w0 W : World) (H : Nat) (v : Int) (l : List UInt8) (y : Nat) (cs : Array Value) : Prop where
  b3 : Blk W H 3 #[.int .i64 v]
  br : Blk W (H + 1) 26 #[.int .i64 0, .slice none 0 0, .slice none 0 0, .slice none 0 0]
  rd : Rd W (H + 1 + 1) l y
  b6 : Blk W (H + 1 + 1 + 1) 72 #[.pointer (some ⟨H + 1 + 1, 0, none⟩)]
  bs : Blk W (H + 1 + 1 + 1 + 1) 26 cs
  tb : Tabs W
  bl : Below H w0 W
theorem DI.read {w0 W W' : World} {H : Nat} {v : Int} {l l' : List UInt8} {y y' : Nat} {cs : Array Value} (h : DI w0 W H v l y cs) (hg : W.grownBy W' (some (H + 1 + 1))) (hr : Rd W' (H + 1 + 1) l' y') : DI w0 W' H v l' y' cs :=
  ⟨h.b3.gr hg (by omega), h.br.gr hg (by omega), hr, h.b6.gr hg (by omega), h.bs.gr hg (by omega), h.tb.gw h.rd hg, h.bl.grown hg (by have := h.br.lt; omega) (fun k hk => by injection hk with hk; omega)⟩
theorem DI.set_ {w0 W : World} {H : Nat} {v : Int} {l : List UInt8} {y : Nat} {cs : Array Value} (h : DI w0 W H v l y cs) (hw0 : w0.heap.size = H) (hT : Tabs w0) (i : Nat) (u : Value) : DI w0 (W.setCell ⟨H + 1 + 1 + 1 + 1, i, none⟩ u) H v l y (cs.setIfInBounds i u) :=
  have hb : Below H w0 (W.setCell ⟨H + 1 + 1 + 1 + 1, i, none⟩ u) := h.bl.setCell (by show H ≤ H + 1 + 1 + 1 + 1; omega) _
  ⟨h.b3.far (p := ⟨H + 1 + 1 + 1 + 1, i, none⟩) (by show H ≠ H + 1 + 1 + 1 + 1; omega) _, h.br.far (p := ⟨H + 1 + 1 + 1 + 1, i, none⟩) (by show H + 1 ≠ H + 1 + 1 + 1 + 1; omega) _, Blk.far (p := ⟨H + 1 + 1 + 1 + 1, i, none⟩) h.rd (by show H + 1 + 1 ≠ H + 1 + 1 + 1 + 1; omega) _,
    h.b6.far (p := ⟨H + 1 + 1 + 1 + 1, i, none⟩) (by show H + 1 + 1 + 1 ≠ H + 1 + 1 + 1 + 1; omega) _, h.bs.set_ i u, hT.below (hw0 ▸ hb), hb⟩
theorem DI.start (w : World) (v : Int) (l : List UInt8) (hT : Tabs w) :
    DI w (((((w.alloc (.cells #[Value.int .i64 v] 3)).alloc (.cells #[.int .i64 0, .slice none 0 0, .slice none 0 0, .slice none 0 0] 26)).alloc (.cells #[.string (bstr l), .int .i64 0] 74)).alloc
      (.cells #[.pointer (some ⟨w.heap.size + 1 + 1, 0, none⟩)] 72)).alloc (.cells #[.int .i64 0, .slice none 0 0, .slice none 0 0, .slice none 0 0] 26)) w.heap.size v l 0 #[.int .i64 0, .slice none 0 0, .slice none 0 0, .slice none 0 0] := by
  have s0 : w.heap.size = w.heap.size := rfl
  have s1 := size_alloc_at s0 (.cells #[Value.int .i64 v] 3)
  have s2 := size_alloc_at s1 (.cells #[.int .i64 0, .slice none 0 0, .slice none 0 0, .slice none 0 0] 26)
  have s3 := size_alloc_at s2 (.cells #[.string (bstr l), .int .i64 0] 74)
  have s4 := size_alloc_at s3 (.cells #[.pointer (some ⟨w.heap.size + 1 + 1, 0, none⟩)] 72)
  have hb := ((((((Below.refl w.heap.size w).alloc (Nat.le_refl _) (.cells #[Value.int .i64 v] 3)).alloc (by omega) (.cells #[.int .i64 0, .slice none 0 0, .slice none 0 0, .slice none 0 0] 26)).alloc (by omega) (.cells #[.string (bstr l), .int .i64 0] 74)).alloc (by omega)
      (.cells #[.pointer (some ⟨w.heap.size + 1 + 1, 0, none⟩)] 72)).alloc (by omega) (.cells #[.int .i64 0, .slice none 0 0, .slice none 0 0, .slice none 0 0] 26))
  exact ⟨((((blk_new_at s0 _ _).alloc _).alloc _).alloc _).alloc _, (((blk_new_at s1 _ _).alloc _).alloc _).alloc _, (((blk_new_at s2 _ _).alloc _).alloc _), (blk_new_at s3 _ _).alloc _, blk_new_at s4 _ _, hT.below hb, hb⟩
set_option maxHeartbeats 4000000 in
set_option maxRecDepth 100000 in
theorem decode_v (b : ByteArray) (v : Int) (w : World) (hv : v < 1 ∨ 3 < v) :
    Calls Tryz.prog 9 #[.string b, .int .i64 v] w fun e w' => DecPost w v b.data.toList e w' := by
  have hzs := zero_state_lit
  have hs1 : (w.alloc (.cells #[Value.int .i64 v] 3)).heap.size = w.heap.size + 1 := by simp
  have hB : Below w.heap.size w ((w.alloc (.cells #[Value.int .i64 v] 3)).alloc (.cells #[.int .i64 0, .slice none 0 0, .slice none 0 0, .slice none 0 0] 26)) := ((Below.refl _ _).alloc (Nat.le_refl _) _).alloc (by omega) _
  have br := blk_new_at hs1 26 #[.int .i64 0, .slice none 0 0, .slice none 0 0, .slice none 0 0]
  have hd : decT v b.data.toList = (zeroSt, 1) := by unfold decT; rw [if_pos hv]
  have HD := Lib.hid (decPost_bad hB hd)
  clear hd
  rcases hv with hv | hv
  · go_enter Tryz.func9, Tryz.ntmps9
    go_wp2_with fail
    refine bodyPost_ret (results_cell_tmp1 rfl _ rfl br Tryz.underlying26 rfl state_size) rfl ?_
    exact HD.out
  · have h1 : ¬ v < 1 := by omega
    go_enter Tryz.func9, Tryz.ntmps9
    go_wp2_with fail
    refine bodyPost_ret (results_cell_tmp1 rfl _ rfl br Tryz.underlying26 rfl state_size) rfl ?_
    exact HD.out
set_option maxHeartbeats 8000000 in
set_option maxRecDepth 100000 in
theorem decode_go (b : ByteArray) (v : Int) (w : World) (hb : b.size ≤ 4611686018427387904) (hT : Tabs w) (hv : 1 ≤ v ∧ v ≤ 3) :
    Calls Tryz.prog 9 #[.string b, .int .i64 v] w fun e w' => DecPost w v b.data.toList e w' := by
  have hzs := zero_state_lit
  have h1 : ¬ v < 1 := by omega
  have h3 : ¬ 3 < v := by omega
  obtain ⟨l, rfl⟩ : ∃ l, b = bstr l := ⟨b.data.toList, (bstr_self b).symm⟩
  rw [bstr_list]
  rw [bstr_size] at hb
  have D5 := DI.start w v l hT
  have HT := Lib.hid hT
  have HV := Lib.hid hv
  clear hT hv
  by_cases h2 : 2 < v
  · have HO : Hid (decide (2 < v) = true) := Lib.hid (decide_eq_true h2)
    go_enter Tryz.func9, Tryz.ntmps9
    go_wp2_with fail
    generalize ((((w.alloc _).alloc _).alloc _).alloc _).alloc _ = W5 at *
    refine (rNumber_any (w.heap.size + 1 + 1) 0 l W5 D5.rd).mono ?_
    rintro e w6 ⟨G6, n, l1, y1, rfl, R6, S6, _, _, hn⟩
    have D6 := D5.read G6 R6
    have e0 : w6.cell? ⟨w.heap.size + 1 + 1 + 1 + 1, 0, none⟩ = some (.int .i64 0) := D6.bs.cell 0
    have f0 := D6.bs.frozen 0
    have e6 : w6.cell? ⟨w.heap.size + 1 + 1 + 1, 0, none⟩ = some (.pointer (some ⟨w.heap.size + 1 + 1, 0, none⟩)) := D6.b6.cell 0
    have D7 := D6.set_ rfl HT.out 0 (.int .i64 (n : Int))
    have S0 : Step (pOpt (decide (2 < v)) pInt 0) l 0 (n : Int) l1 y1 := Step.opt (fun _ => S6) (fun h => by rw [HO.out] at h; cases h)
    have HS0 := Lib.hid S0
    have hl1 := Nat.le_trans S6.1 hb
    clear S6 R6 G6 D5 D6 S0 HO
    go_wp2_with fail
    generalize w6.setCell ⟨w.heap.size + 1 + 1 + 1 + 1, 0, none⟩ (.int .i64 (n : Int)) = w7 at *
    simp only [List.setIfInBounds_toArray, List.set_cons_zero] at D7
    clear e0 f0 e6
    refine (takeJ_any _ _ (w.heap.size + 1 + 1 + 1) w.heap.size (w.heap.size + 1 + 1) y1 l1 v 40 w7 D7.b6 D7.b3 (by omega) (by omega) D7.rd hl1 D7.tb (by decide)).mono ?_
    rintro e w8 ⟨G8, val, jobs, l2, y2, rfl, OJ, R8, S8⟩
    obtain ⟨pJ, cJ, rfl, aJ⟩ := ownsRow_form OJ
    have D8 := D7.read G8 R8
    have hltJ : w.heap.size + 1 + 1 + 1 + 1 < w7.heap.size := D7.bs.lt
    have hszJ : w.heap.size ≤ w7.heap.size := D7.bl.size
    have ec : w8.cell? ⟨w.heap.size + 1 + 1 + 1 + 1, 1, none⟩ = some (.slice none 0 0) := D8.bs.cell 1
    have fc := D8.bs.frozen 1
    have e6 : w8.cell? ⟨w.heap.size + 1 + 1 + 1, 0, none⟩ = some (.pointer (some ⟨w.heap.size + 1 + 1, 0, none⟩)) := D8.b6.cell 0
    have D9 := D8.set_ rfl HT.out 1 (.slice pJ jobs.length cJ)
    have OJ := OwnJ.gw OJ (grow_set w8 (w.heap.size + 1 + 1 + 1 + 1) 1 (.slice pJ jobs.length cJ)) (by omega)
    have HS8 := Lib.hid S8
    have hl2 := Nat.le_trans S8.1 hl1
    clear S8 R8 G8 D7 D8
    go_wp2_with fail
    generalize w8.setCell ⟨w.heap.size + 1 + 1 + 1 + 1, 1, none⟩ (.slice pJ jobs.length cJ) = w9 at *
    simp only [List.setIfInBounds_toArray, List.set_cons_zero, List.set_cons_succ] at D9
    clear ec fc e6
    refine (takeN_any _ _ (w.heap.size + 1 + 1 + 1) w.heap.size (w.heap.size + 1 + 1) y2 l2 v 20 w9 D9.b6 D9.b3 (by omega) (by omega) D9.rd hl2 D9.tb (by decide)).mono ?_
    rintro e w10 ⟨G10, val, nodes, l3, y3, rfl, ON, R10, S10⟩
    obtain ⟨pN, cN, rfl, aN⟩ := ownsRow_form ON
    have D10 := D9.read G10 R10
    have hltN : w.heap.size + 1 + 1 + 1 + 1 < w9.heap.size := D9.bs.lt
    have hszN : w.heap.size ≤ w9.heap.size := D9.bl.size
    have ec : w10.cell? ⟨w.heap.size + 1 + 1 + 1 + 1, 2, none⟩ = some (.slice none 0 0) := D10.bs.cell 2
    have fc := D10.bs.frozen 2
    have e6 : w10.cell? ⟨w.heap.size + 1 + 1 + 1, 0, none⟩ = some (.pointer (some ⟨w.heap.size + 1 + 1, 0, none⟩)) := D10.b6.cell 0
    have D11 := D10.set_ rfl HT.out 2 (.slice pN nodes.length cN)
    have ON := OwnN.gw ON (grow_set w10 (w.heap.size + 1 + 1 + 1 + 1) 2 (.slice pN nodes.length cN)) (by omega)
    have OJ := OwnJ.gw OJ G10 (by omega)
    have OJ := OwnJ.gw OJ (grow_set w10 (w.heap.size + 1 + 1 + 1 + 1) 2 (.slice pN nodes.length cN)) (by omega)
    have HS10 := Lib.hid S10
    have hl3 := Nat.le_trans S10.1 hl2
    clear S10 R10 G10 D9 D10
    go_wp2_with fail
    generalize w10.setCell ⟨w.heap.size + 1 + 1 + 1 + 1, 2, none⟩ (.slice pN nodes.length cN) = w11 at *
    simp only [List.setIfInBounds_toArray, List.set_cons_zero, List.set_cons_succ] at D11
    clear ec fc e6
    refine (takeL_any (w.heap.size + 1 + 1) y3 l3 40 w11 D11.rd hl3 D11.tb (by decide)).mono ?_
    rintro e w12 ⟨G12, val, leases, l4, y4, rfl, OL, R12, S12⟩
    obtain ⟨pL, cL, rfl, aL⟩ := ownsRow_form OL
    have D12 := D11.read G12 R12
    have hltL : w.heap.size + 1 + 1 + 1 + 1 < w11.heap.size := D11.bs.lt
    have hszL : w.heap.size ≤ w11.heap.size := D11.bl.size
    have ec : w12.cell? ⟨w.heap.size + 1 + 1 + 1 + 1, 3, none⟩ = some (.slice none 0 0) := D12.bs.cell 3
    have fc := D12.bs.frozen 3
    have e6 : w12.cell? ⟨w.heap.size + 1 + 1 + 1, 0, none⟩ = some (.pointer (some ⟨w.heap.size + 1 + 1, 0, none⟩)) := D12.b6.cell 0
    have D13 := D12.set_ rfl HT.out 3 (.slice pL leases.length cL)
    have OL := OwnL.gw OL (grow_set w12 (w.heap.size + 1 + 1 + 1 + 1) 3 (.slice pL leases.length cL)) (by omega)
    have ON := OwnN.gw ON G12 (by omega)
    have ON := OwnN.gw ON (grow_set w12 (w.heap.size + 1 + 1 + 1 + 1) 3 (.slice pL leases.length cL)) (by omega)
    have OJ := OwnJ.gw OJ G12 (by omega)
    have OJ := OwnJ.gw OJ (grow_set w12 (w.heap.size + 1 + 1 + 1 + 1) 3 (.slice pL leases.length cL)) (by omega)
    have HS12 := Lib.hid S12
    have hl4 := Nat.le_trans S12.1 hl3
    clear S12 R12 G12 D11 D12
    go_wp2_with fail
    generalize w12.setCell ⟨w.heap.size + 1 + 1 + 1 + 1, 3, none⟩ (.slice pL leases.length cL) = w13 at *
    simp only [List.setIfInBounds_toArray, List.set_cons_zero, List.set_cons_succ] at D13
    clear ec fc e6
    have HST := Lib.hid (Step.state HS0.out HS8.out HS10.out HS12.out)
    refine (rEnd_any (w.heap.size + 1 + 1) y4 l4 w13 D13.rd).mono ?_
    rintro e w14 ⟨G14, rfl⟩
    have br := D13.br.gr G14 (by omega)
    have bs := D13.bs.gr G14 (by omega)
    have hB14 : Below w.heap.size w w14 := D13.bl.grown G14 (by have := D13.br.lt; omega) (fun k hk => by injection hk with hk; omega)
    have OJ := OwnJ.gw OJ G14 (by omega)
    have ON := OwnN.gw ON G14 (by omega)
    have OL := OwnL.gw OL G14 (by omega)
    clear D13 G14 HS0 HS8 HS10 HS12
    by_cases he : endE y4 l4 = 0
    · obtain ⟨hok, hd⟩ := decT_read HV.out HST.out he
      have hez : ((endE y4 l4 : Int) != 0) = false := by rw [he]; rfl
      have hsz := okSt_sz hok
      obtain ⟨qJ, dJ, eqJ, _, EJ⟩ := OwnJ.form OJ
      obtain ⟨qN, dN, eqN, _, EN⟩ := OwnN.form ON
      obtain ⟨qL, dL, eqL, _, EL⟩ := OwnL.form OL
      simp only [Value.slice.injEq, true_and] at eqJ eqN eqL
      obtain ⟨rfl, rfl⟩ := eqJ
      obtain ⟨rfl, rfl⟩ := eqN
      obtain ⟨rfl, rfl⟩ := eqL
      have hm : StM w14 w14.heap.size pJ pN pL ((⟨(n : Int), jobs, nodes, leases⟩ : St)) := ⟨EJ, EN, EL⟩
      have hC := stCheck_any ((⟨(n : Int), jobs, nodes, leases⟩ : St)) pJ pN pL cJ cN cL w14 hm hsz (HT.out.below hB14)
      have HC := Lib.hid hC
      have HM := Lib.hid hm
      have HD := Lib.hid hd
      generalize checkE ((⟨(n : Int), jobs, nodes, leases⟩ : St)) = ce at *
      generalize hee : endE y4 l4 = ee at *
      clear hC hm hd hsz hok he OJ ON OL EJ EN EL hee HST
      go_wp2_with (first
        | (refine wpList_load_blk rfl _ _ rfl (w.heap.size + 1 + 1 + 1 + 1) rfl _ #[Value.int .i64 (n : Int), Value.slice pJ jobs.length cJ, Value.slice pN nodes.length cN, Value.slice pL leases.length cL] bs _ Tryz.underlying26 rfl state_size ?_))
      refine HC.out.mono ?_
      rintro e w15 ⟨rfl, hb15⟩
      have hB15 := hB14.trans (hb15.mono hB14.size)
      have br := br.below hb15 br.lt
      have bs := bs.below hb15 bs.lt
      have HM5 := Lib.hid (HM.out.below hb15)
      have hsz15 := hb15.size
      clear hb15 HM HC
      by_cases hce : ce = 0
      · subst hce
        have hcz : (((0 : Nat) : Int) != 0) = false := rfl
        have hd := HD.out
        rw [if_pos rfl] at hd
        have HD2 := Lib.hid hd
        clear hd HD
        go_wp2_with (first
          | (refine wpList_load_blk rfl _ _ rfl (w.heap.size + 1 + 1 + 1 + 1) rfl _ #[Value.int .i64 (n : Int), Value.slice pJ jobs.length cJ, Value.slice pN nodes.length cN, Value.slice pL leases.length cL] bs _ Tryz.underlying26 rfl state_size ?_)
          | (refine wpList_store_blk rfl _ _ _ rfl (w.heap.size + 1) rfl _ _ #[Value.int .i64 (n : Int), Value.slice pJ jobs.length cJ, Value.slice pN nodes.length cN, Value.slice pL leases.length cL] br rfl state_size rfl (one_st _ _ _ _ _ _ _ _ _ _) ?_))
        refine bodyPost_ret (results_cell_tmp1 rfl _ rfl (br.setRow #[Value.int .i64 (n : Int), Value.slice pJ jobs.length cJ, Value.slice pN nodes.length cN, Value.slice pL leases.length cL]) Tryz.underlying26 rfl state_size) rfl ?_
        have hb16 : Below w15.heap.size w15 w15 := Below.refl _ _
        have hlt := br.lt
        refine ⟨((⟨(n : Int), jobs, nodes, leases⟩ : St)), 0, pJ, pN, pL, cJ, cN, cL, rfl, ?_, ⟨fun a ha => Nat.le_trans hszJ (aJ a ha), fun a ha => Nat.le_trans hszN (aN a ha), fun a ha => Nat.le_trans hszL (aL a ha)⟩, below_setRow hB15 (by omega) _, HD2.out⟩
        have hm := HM5.out
        have hle : w14.heap.size ≤ (w15.setRow (w.heap.size + 1) #[Value.int .i64 (n : Int), Value.slice pJ jobs.length cJ, Value.slice pN nodes.length cN, Value.slice pL leases.length cL]).heap.size := Nat.le_trans hsz15 (by simp)
        have hG := grow_setRow w15 (w.heap.size + 1) #[Value.int .i64 (n : Int), Value.slice pJ jobs.length cJ, Value.slice pN nodes.length cN, Value.slice pL leases.length cL]
        exact ⟨(hm.j.gra hG hsz15 aJ (by omega)).more hle, (hm.n.gra hG hsz15 aN (by omega)).more hle, (hm.l.gra hG hsz15 aL (by omega)).more hle⟩
      · have hcz : ((ce : Int) != 0) = true := by rw [bne_iff_ne]; omega
        have hd := HD.out
        rw [if_neg hce] at hd
        have HD2 := Lib.hid hd
        clear hd HD
        go_wp2_with (first
          | (refine wpList_store_blk rfl _ _ _ rfl (w.heap.size + 1) rfl _ _ #[Value.int .i64 0, Value.slice none 0 0, Value.slice none 0 0, Value.slice none 0 0] br rfl state_size rfl (one_st _ _ _ _ _ _ _ _ _ _) ?_))
        refine bodyPost_ret (results_cell_tmp1 rfl _ rfl (br.setRow #[Value.int .i64 0, Value.slice none 0 0, Value.slice none 0 0, Value.slice none 0 0]) Tryz.underlying26 rfl state_size) rfl ?_
        exact decPost_bad (below_setRow hB15 (by omega) _) HD2.out
    · have hd := decT_end HV.out HST.out he
      have hez : ((endE y4 l4 : Int) != 0) = true := by rw [bne_iff_ne]; omega
      have HD := Lib.hid hd
      generalize endE y4 l4 = ee at *
      clear hd he OJ ON OL HST
      go_wp2_with (first
        | (refine wpList_store_blk rfl _ _ _ rfl (w.heap.size + 1) rfl _ _ #[Value.int .i64 0, Value.slice none 0 0, Value.slice none 0 0, Value.slice none 0 0] br rfl state_size rfl (one_st _ _ _ _ _ _ _ _ _ _) ?_))
      refine bodyPost_ret (results_cell_tmp1 rfl _ rfl (br.setRow #[Value.int .i64 0, Value.slice none 0 0, Value.slice none 0 0, Value.slice none 0 0]) Tryz.underlying26 rfl state_size) rfl ?_
      exact decPost_bad (below_setRow hB14 (by omega) _) HD.out
  · have HO : Hid (decide (2 < v) = false) := Lib.hid (decide_eq_false h2)
    go_enter Tryz.func9, Tryz.ntmps9
    go_wp2_with fail
    generalize ((((w.alloc _).alloc _).alloc _).alloc _).alloc _ = w7 at *
    have S0 : Step (pOpt (decide (2 < v)) pInt 0) l 0 (0 : Int) l 0 := Step.opt (fun h => by rw [HO.out] at h; cases h) (fun _ => ⟨rfl, rfl, rfl⟩)
    have HS0 := Lib.hid S0
    have hl1 := hb
    have D7 := D5
    clear D5 S0 HO
    refine (takeJ_any _ _ (w.heap.size + 1 + 1 + 1) w.heap.size (w.heap.size + 1 + 1) 0 l v 40 w7 D7.b6 D7.b3 (by omega) (by omega) D7.rd hl1 D7.tb (by decide)).mono ?_
    rintro e w8 ⟨G8, val, jobs, l2, y2, rfl, OJ, R8, S8⟩
    obtain ⟨pJ, cJ, rfl, aJ⟩ := ownsRow_form OJ
    have D8 := D7.read G8 R8
    have hltJ : w.heap.size + 1 + 1 + 1 + 1 < w7.heap.size := D7.bs.lt
    have hszJ : w.heap.size ≤ w7.heap.size := D7.bl.size
    have ec : w8.cell? ⟨w.heap.size + 1 + 1 + 1 + 1, 1, none⟩ = some (.slice none 0 0) := D8.bs.cell 1
    have fc := D8.bs.frozen 1
    have e6 : w8.cell? ⟨w.heap.size + 1 + 1 + 1, 0, none⟩ = some (.pointer (some ⟨w.heap.size + 1 + 1, 0, none⟩)) := D8.b6.cell 0
    have D9 := D8.set_ rfl HT.out 1 (.slice pJ jobs.length cJ)
    have OJ := OwnJ.gw OJ (grow_set w8 (w.heap.size + 1 + 1 + 1 + 1) 1 (.slice pJ jobs.length cJ)) (by omega)
    have HS8 := Lib.hid S8
    have hl2 := Nat.le_trans S8.1 hl1
    clear S8 R8 G8 D7 D8
    go_wp2_with fail
    generalize w8.setCell ⟨w.heap.size + 1 + 1 + 1 + 1, 1, none⟩ (.slice pJ jobs.length cJ) = w9 at *
    simp only [List.setIfInBounds_toArray, List.set_cons_zero, List.set_cons_succ] at D9
    clear ec fc e6
    refine (takeN_any _ _ (w.heap.size + 1 + 1 + 1) w.heap.size (w.heap.size + 1 + 1) y2 l2 v 20 w9 D9.b6 D9.b3 (by omega) (by omega) D9.rd hl2 D9.tb (by decide)).mono ?_
    rintro e w10 ⟨G10, val, nodes, l3, y3, rfl, ON, R10, S10⟩
    obtain ⟨pN, cN, rfl, aN⟩ := ownsRow_form ON
    have D10 := D9.read G10 R10
    have hltN : w.heap.size + 1 + 1 + 1 + 1 < w9.heap.size := D9.bs.lt
    have hszN : w.heap.size ≤ w9.heap.size := D9.bl.size
    have ec : w10.cell? ⟨w.heap.size + 1 + 1 + 1 + 1, 2, none⟩ = some (.slice none 0 0) := D10.bs.cell 2
    have fc := D10.bs.frozen 2
    have e6 : w10.cell? ⟨w.heap.size + 1 + 1 + 1, 0, none⟩ = some (.pointer (some ⟨w.heap.size + 1 + 1, 0, none⟩)) := D10.b6.cell 0
    have D11 := D10.set_ rfl HT.out 2 (.slice pN nodes.length cN)
    have ON := OwnN.gw ON (grow_set w10 (w.heap.size + 1 + 1 + 1 + 1) 2 (.slice pN nodes.length cN)) (by omega)
    have OJ := OwnJ.gw OJ G10 (by omega)
    have OJ := OwnJ.gw OJ (grow_set w10 (w.heap.size + 1 + 1 + 1 + 1) 2 (.slice pN nodes.length cN)) (by omega)
    have HS10 := Lib.hid S10
    have hl3 := Nat.le_trans S10.1 hl2
    clear S10 R10 G10 D9 D10
    go_wp2_with fail
    generalize w10.setCell ⟨w.heap.size + 1 + 1 + 1 + 1, 2, none⟩ (.slice pN nodes.length cN) = w11 at *
    simp only [List.setIfInBounds_toArray, List.set_cons_zero, List.set_cons_succ] at D11
    clear ec fc e6
    refine (takeL_any (w.heap.size + 1 + 1) y3 l3 40 w11 D11.rd hl3 D11.tb (by decide)).mono ?_
    rintro e w12 ⟨G12, val, leases, l4, y4, rfl, OL, R12, S12⟩
    obtain ⟨pL, cL, rfl, aL⟩ := ownsRow_form OL
    have D12 := D11.read G12 R12
    have hltL : w.heap.size + 1 + 1 + 1 + 1 < w11.heap.size := D11.bs.lt
    have hszL : w.heap.size ≤ w11.heap.size := D11.bl.size
    have ec : w12.cell? ⟨w.heap.size + 1 + 1 + 1 + 1, 3, none⟩ = some (.slice none 0 0) := D12.bs.cell 3
    have fc := D12.bs.frozen 3
    have e6 : w12.cell? ⟨w.heap.size + 1 + 1 + 1, 0, none⟩ = some (.pointer (some ⟨w.heap.size + 1 + 1, 0, none⟩)) := D12.b6.cell 0
    have D13 := D12.set_ rfl HT.out 3 (.slice pL leases.length cL)
    have OL := OwnL.gw OL (grow_set w12 (w.heap.size + 1 + 1 + 1 + 1) 3 (.slice pL leases.length cL)) (by omega)
    have ON := OwnN.gw ON G12 (by omega)
    have ON := OwnN.gw ON (grow_set w12 (w.heap.size + 1 + 1 + 1 + 1) 3 (.slice pL leases.length cL)) (by omega)
    have OJ := OwnJ.gw OJ G12 (by omega)
    have OJ := OwnJ.gw OJ (grow_set w12 (w.heap.size + 1 + 1 + 1 + 1) 3 (.slice pL leases.length cL)) (by omega)
    have HS12 := Lib.hid S12
    have hl4 := Nat.le_trans S12.1 hl3
    clear S12 R12 G12 D11 D12
    go_wp2_with fail
    generalize w12.setCell ⟨w.heap.size + 1 + 1 + 1 + 1, 3, none⟩ (.slice pL leases.length cL) = w13 at *
    simp only [List.setIfInBounds_toArray, List.set_cons_zero, List.set_cons_succ] at D13
    clear ec fc e6
    have HST := Lib.hid (Step.state HS0.out HS8.out HS10.out HS12.out)
    refine (rEnd_any (w.heap.size + 1 + 1) y4 l4 w13 D13.rd).mono ?_
    rintro e w14 ⟨G14, rfl⟩
    have br := D13.br.gr G14 (by omega)
    have bs := D13.bs.gr G14 (by omega)
    have hB14 : Below w.heap.size w w14 := D13.bl.grown G14 (by have := D13.br.lt; omega) (fun k hk => by injection hk with hk; omega)
    have OJ := OwnJ.gw OJ G14 (by omega)
    have ON := OwnN.gw ON G14 (by omega)
    have OL := OwnL.gw OL G14 (by omega)
    clear D13 G14 HS0 HS8 HS10 HS12
    by_cases he : endE y4 l4 = 0
    · obtain ⟨hok, hd⟩ := decT_read HV.out HST.out he
      have hez : ((endE y4 l4 : Int) != 0) = false := by rw [he]; rfl
      have hsz := okSt_sz hok
      obtain ⟨qJ, dJ, eqJ, _, EJ⟩ := OwnJ.form OJ
      obtain ⟨qN, dN, eqN, _, EN⟩ := OwnN.form ON
      obtain ⟨qL, dL, eqL, _, EL⟩ := OwnL.form OL
      simp only [Value.slice.injEq, true_and] at eqJ eqN eqL
      obtain ⟨rfl, rfl⟩ := eqJ
      obtain ⟨rfl, rfl⟩ := eqN
      obtain ⟨rfl, rfl⟩ := eqL
      have hm : StM w14 w14.heap.size pJ pN pL ((⟨0, jobs, nodes, leases⟩ : St)) := ⟨EJ, EN, EL⟩
      have hC := stCheck_any ((⟨0, jobs, nodes, leases⟩ : St)) pJ pN pL cJ cN cL w14 hm hsz (HT.out.below hB14)
      have HC := Lib.hid hC
      have HM := Lib.hid hm
      have HD := Lib.hid hd
      generalize checkE ((⟨0, jobs, nodes, leases⟩ : St)) = ce at *
      generalize hee : endE y4 l4 = ee at *
      clear hC hm hd hsz hok he OJ ON OL EJ EN EL hee HST
      go_wp2_with (first
        | (refine wpList_load_blk rfl _ _ rfl (w.heap.size + 1 + 1 + 1 + 1) rfl _ #[Value.int .i64 0, Value.slice pJ jobs.length cJ, Value.slice pN nodes.length cN, Value.slice pL leases.length cL] bs _ Tryz.underlying26 rfl state_size ?_))
      refine HC.out.mono ?_
      rintro e w15 ⟨rfl, hb15⟩
      have hB15 := hB14.trans (hb15.mono hB14.size)
      have br := br.below hb15 br.lt
      have bs := bs.below hb15 bs.lt
      have HM5 := Lib.hid (HM.out.below hb15)
      have hsz15 := hb15.size
      clear hb15 HM HC
      by_cases hce : ce = 0
      · subst hce
        have hcz : (((0 : Nat) : Int) != 0) = false := rfl
        have hd := HD.out
        rw [if_pos rfl] at hd
        have HD2 := Lib.hid hd
        clear hd HD
        go_wp2_with (first
          | (refine wpList_load_blk rfl _ _ rfl (w.heap.size + 1 + 1 + 1 + 1) rfl _ #[Value.int .i64 0, Value.slice pJ jobs.length cJ, Value.slice pN nodes.length cN, Value.slice pL leases.length cL] bs _ Tryz.underlying26 rfl state_size ?_)
          | (refine wpList_store_blk rfl _ _ _ rfl (w.heap.size + 1) rfl _ _ #[Value.int .i64 0, Value.slice pJ jobs.length cJ, Value.slice pN nodes.length cN, Value.slice pL leases.length cL] br rfl state_size rfl (one_st _ _ _ _ _ _ _ _ _ _) ?_))
        refine bodyPost_ret (results_cell_tmp1 rfl _ rfl (br.setRow #[Value.int .i64 0, Value.slice pJ jobs.length cJ, Value.slice pN nodes.length cN, Value.slice pL leases.length cL]) Tryz.underlying26 rfl state_size) rfl ?_
        have hb16 : Below w15.heap.size w15 w15 := Below.refl _ _
        have hlt := br.lt
        refine ⟨((⟨0, jobs, nodes, leases⟩ : St)), 0, pJ, pN, pL, cJ, cN, cL, rfl, ?_, ⟨fun a ha => Nat.le_trans hszJ (aJ a ha), fun a ha => Nat.le_trans hszN (aN a ha), fun a ha => Nat.le_trans hszL (aL a ha)⟩, below_setRow hB15 (by omega) _, HD2.out⟩
        have hm := HM5.out
        have hle : w14.heap.size ≤ (w15.setRow (w.heap.size + 1) #[Value.int .i64 0, Value.slice pJ jobs.length cJ, Value.slice pN nodes.length cN, Value.slice pL leases.length cL]).heap.size := Nat.le_trans hsz15 (by simp)
        have hG := grow_setRow w15 (w.heap.size + 1) #[Value.int .i64 0, Value.slice pJ jobs.length cJ, Value.slice pN nodes.length cN, Value.slice pL leases.length cL]
        exact ⟨(hm.j.gra hG hsz15 aJ (by omega)).more hle, (hm.n.gra hG hsz15 aN (by omega)).more hle, (hm.l.gra hG hsz15 aL (by omega)).more hle⟩
      · have hcz : ((ce : Int) != 0) = true := by rw [bne_iff_ne]; omega
        have hd := HD.out
        rw [if_neg hce] at hd
        have HD2 := Lib.hid hd
        clear hd HD
        go_wp2_with (first
          | (refine wpList_store_blk rfl _ _ _ rfl (w.heap.size + 1) rfl _ _ #[Value.int .i64 0, Value.slice none 0 0, Value.slice none 0 0, Value.slice none 0 0] br rfl state_size rfl (one_st _ _ _ _ _ _ _ _ _ _) ?_))
        refine bodyPost_ret (results_cell_tmp1 rfl _ rfl (br.setRow #[Value.int .i64 0, Value.slice none 0 0, Value.slice none 0 0, Value.slice none 0 0]) Tryz.underlying26 rfl state_size) rfl ?_
        exact decPost_bad (below_setRow hB15 (by omega) _) HD2.out
    · have hd := decT_end HV.out HST.out he
      have hez : ((endE y4 l4 : Int) != 0) = true := by rw [bne_iff_ne]; omega
      have HD := Lib.hid hd
      generalize endE y4 l4 = ee at *
      clear hd he OJ ON OL HST
      go_wp2_with (first
        | (refine wpList_store_blk rfl _ _ _ rfl (w.heap.size + 1) rfl _ _ #[Value.int .i64 0, Value.slice none 0 0, Value.slice none 0 0, Value.slice none 0 0] br rfl state_size rfl (one_st _ _ _ _ _ _ _ _ _ _) ?_))
      refine bodyPost_ret (results_cell_tmp1 rfl _ rfl (br.setRow #[Value.int .i64 0, Value.slice none 0 0, Value.slice none 0 0, Value.slice none 0 0]) Tryz.underlying26 rfl state_size) rfl ?_
      exact decPost_bad (below_setRow hB14 (by omega) _) HD.out
theorem decode_state (b : ByteArray) (v : Int) (w : World) (hb : b.size ≤ 4611686018427387904) (hT : Tabs w) :
    Calls Tryz.prog 9 #[.string b, .int .i64 v] w fun e w' => DecPost w v b.data.toList e w' := by
  by_cases hv : 1 ≤ v ∧ v ≤ 3
  · exact decode_go b v w hb hT hv
  · exact decode_v b v w (by omega)
end Go.Proofs.YtdicoepjkngikaaGreatDoor
