/-
  General lemmas of this seat: no program. Byte buffers (a []byte of the call's own) as lists of bytes; frames.
-/
import Derived.WalkKit
import Derived.ProofKit
import Derived.Handy
import Derived.Lib.Hide
import Derived.Deep.QuietTactic
import Derived.BigQuiet
import Derived.Deep.RegionWith
import Derived.WalkSpells
import Derived.StillTailTactics
import Derived.Deep.RegionHeld3
import Derived.Deep.DeepCutAuto
import Derived.Deep.LoopGhost
import Derived.SizedLaws
import Derived.Deep.WholeRow
import Derived.Deep.MidRow
import Derived.Deep.CondSized
import Derived.Carry
import Derived.ShutString
import Derived.Lib.SmallJoins
set_option linter.unusedVariables false
set_option linter.unusedSimpArgs false
namespace Go.Proofs.YtoepchgoacdodaaDoor
open Go.RowKit

theorem drop_cons (s : ByteArray) (k : Nat) (h : k < s.size) : s.data.toList.drop k = s[k] :: s.data.toList.drop (k + 1) := by
  rw [List.drop_eq_getElem_cons (by simpa using h)]; rfl

def bytesV (l : List UInt8) : List Value := l.map fun c => Value.int .u8 (c.toNat : Int)
theorem bytesV_length (l : List UInt8) : (bytesV l).length = l.length := by simp [bytesV]
theorem bytesV_append (l r : List UInt8) : bytesV (l ++ r) = bytesV l ++ bytesV r := by simp [bytesV]

/-- A slice of bytes of the call's own (nil, or at the head of a row from block 'base' on) that holds l. -/
def Buf (U : TypeId) (w : World) (base : Nat) (v : Value) (l : List UInt8) : Prop := w.ownsRow base U 1 v l.length (bytesV l)

theorem Buf.nil (U : TypeId) (w : World) (base : Nat) : Buf U w base (.slice none 0 0) [] := World.ownsRow_nil w base U 1
theorem Buf.alloc {U : TypeId} {w : World} {base : Nat} {v : Value} {l : List UInt8} (h : Buf U w base v l) (o : Obj) : Buf U (w.alloc o) base v l := World.ownsRow.alloc h o
theorem Buf.drew {U : TypeId} {w : World} {base : Nat} {v : Value} {l : List UInt8} (h : Buf U w base v l) : Buf U w.drew base v l := h

theorem bthen {a b c : World} (h1 : Below a.heap.size a b) (h2 : Below b.heap.size b c) : Below a.heap.size a c := h1.trans (h2.mono h1.size)
theorem below_drewN {B : Nat} {a w : World} (h : Below B a w) (n : Nat) : Below B a (w.drewN n) := ⟨h.os, h.tape, h.output, h.size, h.block⟩

theorem cells_new (w : World) (xs : Array Value) (T : TypeId) (l : List UInt8) (h : xs.toList = bytesV l) :
    ∀ j u, l[j]? = some u → (w.alloc (.cells xs T)).cell? ((⟨w.heap.size, 0, none⟩ : Addr).add j) = some (.int .u8 (u.toNat : Int)) := by
  intro j u hj
  have hx : xs[j]? = some (.int .u8 (u.toNat : Int)) := by
    rw [← Array.getElem?_toList, h]; simp [bytesV, hj]
  have ha : (⟨w.heap.size, 0, none⟩ : Addr).add j = ⟨w.heap.size, j, none⟩ := by unfold Addr.add; split <;> simp_all
  rw [ha, cell_of_row (w.alloc (.cells xs T)) w.heap.size j xs T (0, 0) (heap_alloc_new w _), hx]

theorem buf_string {P : Program} {w : World} {U src dst : TypeId} {base : Nat} {v : Value} {l : List UInt8} (hs : P.underlying src = some (.slice U)) (hU : P.underlying U = some (.int .u8)) (hd : P.underlying dst = some .string)
    (h : Buf U w base v l) : (convert src dst v).run P w = .ok (.string ⟨l.toArray⟩) w := by
  rcases h.2 with ⟨rfl, h0⟩ | ⟨g, cap, cur, rfl, _, hh, hnc, _, hsz, htk⟩
  · have : l = [] := List.eq_nil_of_length_eq_zero h0
    subst this
    exact run_convert_bytes_nil w src U hs hU 0 0 dst hd
  · have := run_convert_bytes_arg (P := P) w src U hs hU g 0 l.length cap (l.map fun c => (c.toNat : Int)) (by simp) (fun i hi => ?_) dst hd
    · rw [this]
      congr 2
      unfold strOfNums
      simp [List.map_map, Function.comp_def]
    · have h1 : (bytesV l)[i]? = some (.int .u8 (l[i].toNat : Int)) := by simp [bytesV, hi]
      have h2 := World.ownsRow.cells h (g := g) rfl i _ h1
      have ha : (⟨g, 0, none⟩ : Addr).add i = ⟨g, 0 + i, none⟩ := by unfold Addr.add; split <;> simp_all
      rw [ha] at h2
      rw [h2]
      simp [List.getD, hi]

/-- A literal of bytes, turned into a string. -/
theorem conv_lit {P : Program} {U src dst : TypeId} (hs : P.underlying src = some (.slice U)) (hU : P.underlying U = some (.int .u8)) (hd : P.underlying dst = some .string) (xs : Array Value) (l : List UInt8) (h : xs.toList = bytesV l) (n c : Nat) (hn : n = l.length) (W : World) (T : TypeId) :
    (convert src dst (.slice (some ⟨W.heap.size, 0, none⟩) n c)).run P (W.alloc (.cells xs T)) = .ok (.string ⟨l.toArray⟩) (W.alloc (.cells xs T)) := by
  subst hn
  have := run_convert_bytes_arg (P := P) (W.alloc (.cells xs T)) src U hs hU W.heap.size 0 l.length c (l.map fun c => (c.toNat : Int)) (by simp) (fun i hi => ?_) dst hd
  · rw [this]
    congr 2
    unfold strOfNums
    simp [List.map_map, Function.comp_def]
  · have h1 := cells_new W xs T l h i l[i] (by simp [hi])
    have ha : (⟨W.heap.size, 0, none⟩ : Addr).add i = ⟨W.heap.size, 0 + i, none⟩ := by unfold Addr.add; split <;> simp_all
    rw [ha] at h1
    rw [h1]
    simp [List.getD, hi]

theorem conv_lit_drew {P : Program} {U src dst : TypeId} (hs : P.underlying src = some (.slice U)) (hU : P.underlying U = some (.int .u8)) (hd : P.underlying dst = some .string) (xs : Array Value) (l : List UInt8) (h : xs.toList = bytesV l) (n c : Nat) (hn : n = l.length) (W : World) (T : TypeId) :
    (convert src dst (.slice (some ⟨W.heap.size, 0, none⟩) n c)).run P (W.alloc (.cells xs T)).drew = .ok (.string ⟨l.toArray⟩) (W.alloc (.cells xs T)).drew :=
  conv_lit hs hU hd xs l h n c hn W.drew T

section
variable {P : Program} (w : World)

theorem wpList_buf_append {ops : Array Oper} {rest : List Oper} {o : Oper} {a : Act} {Q : Exit → Act → World → Prop} (hgd : o.guard = none) (s x : Operand) (t : TypeId)
    (ho : o.op = .call { callee := .builtin .append, args := #[s, x], argTypes := #[t, t] })
    (U : TypeId) (ht : P.underlying t = some (.slice U)) (hinfo : (P.info? U).map (fun i => (i.zero, i.size, i.bytes)) = some (some (.int .u8 0), 1, 1))
    (base : Nat) (v : Value) (l : List UInt8) (hs : a.eval s = v) (hbuf : Buf U w base v l)
    (ad : Addr) (m c : Nat) (news : List UInt8) (hx : a.eval x = .slice (some ad) m c) (hm : m = news.length)
    (hcells : ∀ j u, news[j]? = some u → w.cell? (ad.add j) = some (.int .u8 (u.toNat : Int))) (hlen : l.length + news.length ≤ 140737488355328) (hbase : base ≤ w.heap.size)
    (h : ∀ v' w', Buf U w' base v' (l ++ news) → Below base w w' → wpList P ops Q rest (a.put o.dst v') w') : wpList P ops Q (o :: rest) a w := by
  obtain ⟨i0, hi, hz, hz1, hz2⟩ := info_parts hinfo
  subst hm
  refine wpList_append_own w hgd s x t ho base U i0 (.int .u8 0) 1 1 ht hi hz hz1 hz2 rfl (by decide) v l.length (bytesV l) hs hbuf ad news.length c (bytesV news) hx (by simp [bytesV]) ?_ ?_ ?_ ?_ hbase ?_
  · intro j u hj
    simp only [bytesV, List.getElem?_map, Option.map_eq_some_iff] at hj
    obtain ⟨u', hu, rfl⟩ := hj
    exact hcells j u' hu
  · intro u hu
    simp only [bytesV, List.mem_map] at hu
    obtain ⟨u', _, rfl⟩ := hu
    rfl
  · simp only [maxLen]; omega
  · omega
  · intro v' w' hown hg hat
    refine h v' w' ?_ ?_
    · unfold Buf
      rw [bytesV_append, List.length_append]
      exact hown
    · refine (Below.refl base w).grown hg hbase (fun k hk => ?_)
      exact (World.ownsRow.lt hbuf k hk).1
end

/-- Block g is just the cells cs of element type t, none frozen. -/
def Blk (w : World) (g : Nat) (t : TypeId) (cs : Array Value) : Prop := w.heap[g]? = some (.cells cs t (0, 0))
section
variable {w w' : World} {g : Nat} {t : TypeId} {cs : Array Value}
theorem Blk.lt (h : Blk w g t cs) : g < w.heap.size := by
  rcases Nat.lt_or_ge g w.heap.size with hlt | hge
  · exact hlt
  · unfold Blk at h; rw [Array.getElem?_eq_none hge] at h; cases h
theorem Blk.cell (h : Blk w g t cs) (i : Nat) : w.cell? ⟨g, i, none⟩ = cs[i]? := cell_of_row w g i cs t (0, 0) h
theorem Blk.frozen (h : Blk w g t cs) (i : Nat) : w.frozen? ⟨g, i, none⟩ = false := by
  unfold Blk at h
  simp [World.frozen?, h]
theorem Blk.new (w : World) (t : TypeId) (cs : Array Value) : Blk (w.alloc (.cells cs t)) w.heap.size t cs := heap_alloc_new w _
theorem Blk.drew (h : Blk w g t cs) : Blk w.drew g t cs := h
theorem Blk.alloc (h : Blk w g t cs) (o : Obj) : Blk (w.alloc o) g t cs := (Below.heap_alloc w o g h.lt).trans h
theorem Blk.set_ (h : Blk w g t cs) (i : Nat) (u : Value) : Blk (w.setCell ⟨g, i, none⟩ u) g t (cs.setIfInBounds i u) := by
  unfold Blk at h ⊢
  simp [World.setCell, Array.getElem?_modify, h]
theorem Blk.far (h : Blk w g t cs) {p : Addr} (hp : g ≠ p.block) (u : Value) : Blk (w.setCell p u) g t cs := (Below.heap_setCell w p u g hp).trans h
theorem Blk.below {B : Nat} (h : Blk w g t cs) (hb : Below B w w') (hg : g < B) : Blk w' g t cs := (hb.block g hg).trans h
theorem Blk.ne_ {g' : Nat} {t' : TypeId} {cs' : Array Value} (h : Blk w g t cs) (h' : Blk w g' t' cs') (hne : t ≠ t') : g ≠ g' := by
  rintro rfl
  unfold Blk at h h'
  rw [h] at h'
  injection h' with h'
  injection h' with _ ht
  exact hne ht
theorem Blk.setRow (h : Blk w g t cs) (cs' : Array Value) : Blk (w.setRow g cs') g t cs' := setRow_heap w g cs cs' t (0, 0) h
theorem Blk.setRow_far (h : Blk w g t cs) {g' : Nat} (hg : g ≠ g') (cs' : Array Value) : Blk (w.setRow g' cs') g t cs := (setRow_other w g' g cs' hg).trans h
theorem below_setRow {B : Nat} {a w : World} (h : Below B a w) (hg : B ≤ g) (cs' : Array Value) : Below B a (w.setRow g cs') :=
  h.trans ⟨rfl, rfl, rfl, by simp, fun k hk => setRow_other w g k cs' (by omega)⟩
end
section
variable {P : Program} {w : World} {ops : Array Oper} {rest : List Oper} {op : Oper} {a : Act} {Q : Exit → Act → World → Prop}
theorem loadVar_blk {g : Nat} {t ty : TypeId} {cs : Array Value} {d : TypeDesc} (hb : Blk w g t cs) (hu : P.underlying ty = some d) (hd : TypeDesc.isRow d = true) (hi : (P.info? ty).map (·.size) = some cs.size) :
    (loadVar ty ⟨g, 0, none⟩).run P w = .ok (.agg cs) w := run_loadVar_row w g t ty cs (0, 0) d hb hu (by cases d <;> simp_all) hi
/-- A whole block of bytes, turned into a string. -/
theorem conv_blk {U src dst : TypeId} (hs : P.underlying src = some (.slice U)) (hU : P.underlying U = some (.int .u8)) (hd : P.underlying dst = some .string) {g : Nat} {T : TypeId} {xs : Array Value} (hb : Blk w g T xs) (l : List UInt8) (h : xs.toList = bytesV l) (n c : Nat) (hn : n = l.length) :
    (convert src dst (.slice (some ⟨g, 0, none⟩) n c)).run P w = .ok (.string ⟨l.toArray⟩) w := by
  subst hn
  have := run_convert_bytes_arg (P := P) w src U hs hU g 0 l.length c (l.map fun c => (c.toNat : Int)) (by simp) (fun i hi => ?_) dst hd
  · rw [this]
    congr 2
    unfold strOfNums
    simp [List.map_map, Function.comp_def]
  · rw [Nat.zero_add, hb.cell, ← Array.getElem?_toList, h]
    simp [bytesV, hi, List.getD]
/-- A whole block is read by value. -/
theorem wpList_load_blk (hgd : op.guard = none) (ty : TypeId) (x : Operand) (ho : op.op = .load ty x) (g : Nat) (hx : a.eval x = .pointer (some ⟨g, 0, none⟩)) (t : TypeId) (cs : Array Value) (hb : Blk w g t cs)
    (d : TypeDesc) (hu : P.underlying ty = some d) (hd : TypeDesc.isRow d = true) (hi : (P.info? ty).map (·.size) = some cs.size)
    (h : wpList P ops Q rest (a.put op.dst (.agg cs)) w) : wpList P ops Q (op :: rest) a w :=
  wpList_plain hgd fun _ hK => by
    unfold Oper.wp execOp
    simp only [ho, hx, Instr.loadAt, Instr.sureAddr, Sem.run_bind, Sem.run_pure, Result.andThen_ok, loadVar_blk hb hu hd hi]
    exact hK _ _ h
theorem results_cell1 {fn : Func} {p : Tmp} {ty t : TypeId} {g : Nat} {cs : Array Value} {d : TypeDesc} (h : fn.results = #[.cell p ty]) (tmps : Array Value) (hp : tmps.getD p undef = .pointer (some ⟨g, 0, none⟩)) (hb : Blk w g t cs)
    (hu : P.underlying ty = some d) (hd : TypeDesc.isRow d = true) (hi : (P.info? ty).map (·.size) = some cs.size) : (results fn tmps).run P w = .ok (.agg cs) w := by
  have hp' : tmps[p]?.getD undef = .pointer (some ⟨g, 0, none⟩) := by simpa using hp
  simp only [results, h]
  simp [Sem.run_bind, Result.andThen, hp', asAddr, loadVar_blk hb hu hd hi]
theorem results_cell_tmp2 {fn : Func} {p u v : Tmp} {ty t : TypeId} {g : Nat} {cs : Array Value} {d : TypeDesc} (h : fn.results = #[.cell p ty, .tmp u, .tmp v]) (tmps : Array Value) (hp : tmps.getD p undef = .pointer (some ⟨g, 0, none⟩)) (hb : Blk w g t cs)
    (hu : P.underlying ty = some d) (hd : TypeDesc.isRow d = true) (hi : (P.info? ty).map (·.size) = some cs.size) : (results fn tmps).run P w = .ok (.tuple #[.agg cs, tmps.getD u undef, tmps.getD v undef]) w := by
  have hp' : tmps[p]?.getD undef = .pointer (some ⟨g, 0, none⟩) := by simpa using hp
  simp only [results, h]
  simp [Sem.run_bind, Result.andThen, hp', asAddr, loadVar_blk hb hu hd hi]
theorem results_cell_tmp1 {fn : Func} {p u : Tmp} {ty t : TypeId} {g : Nat} {cs : Array Value} {d : TypeDesc} (h : fn.results = #[.cell p ty, .tmp u]) (tmps : Array Value) (hp : tmps.getD p undef = .pointer (some ⟨g, 0, none⟩)) (hb : Blk w g t cs)
    (hu : P.underlying ty = some d) (hd : TypeDesc.isRow d = true) (hi : (P.info? ty).map (·.size) = some cs.size) : (results fn tmps).run P w = .ok (.tuple #[.agg cs, tmps.getD u undef]) w := by
  have hp' : tmps[p]?.getD undef = .pointer (some ⟨g, 0, none⟩) := by simpa using hp
  simp only [results, h]
  simp [Sem.run_bind, Result.andThen, hp', asAddr, loadVar_blk hb hu hd hi]
/-- A whole block is written by value. -/
theorem wpList_store_blk (hgd : op.guard = none) (ty : TypeId) (x y : Operand) (ho : op.op = .store ty x y) (g : Nat) (hx : a.eval x = .pointer (some ⟨g, 0, none⟩)) (t : TypeId) (cs cs' : Array Value) (hb : Blk w g t cs)
    (hy : a.eval y = .agg cs') (hi : (P.info? ty).map (·.size) = some cs'.size) (hs : cs.size = cs'.size) (h1 : cs'.all (·.oneCell') = true)
    (h : wpList P ops Q rest (a.put op.dst undef) (w.setRow g cs')) : wpList P ops Q (op :: rest) a w :=
  wpList_plain hgd fun _ hK => by
    unfold Oper.wp execOp
    simp only [ho, hx, hy, Instr.storeAt, Instr.sureAddr, Sem.run_bind, Sem.run_pure, Result.andThen_ok, run_storeVar_row w g t ty cs cs' hb hi hs h1]
    exact hK _ _ h
end

section
variable {P : Program} {w : World} {ops : Array Oper} {rest : List Oper} {op : Oper} {a : Act} {Q : Exit → Act → World → Prop}
/-- A whole block that has just been made is written by value: as if it had been made so. -/
theorem wpList_store_new (hgd : op.guard = none) (ty : TypeId) (x y : Operand) (ho : op.op = .store ty x y) (hx : a.eval x = .pointer (some ⟨w.heap.size, 0, none⟩)) (t : TypeId) (cs cs' : Array Value)
    (hy : a.eval y = .agg cs') (hi : (P.info? ty).map (·.size) = some cs'.size) (hs : cs.size = cs'.size) (h1 : cs'.all (·.oneCell') = true)
    (h : wpList P ops Q rest (a.put op.dst undef) (w.alloc (.cells cs' t))) : wpList P ops Q (op :: rest) a (w.alloc (.cells cs t)) :=
  wpList_store_blk hgd ty x y ho w.heap.size hx t cs cs' (Blk.new w t cs) hy hi hs h1 (by rw [World.setRow_alloc_new]; exact h)
end
section
variable {P : Program} {ops : Array Oper} {Q : Exit → Act → World → Prop} {md : Region.Mode} {S S' : World → Prop}
/-- The condition of a region may be made to say more on the way. -/
theorem wpAnyH_more (h : ∀ w, S' w → S w) : ∀ (fuel : Nat) (listed : Array Bool) (a : Act) (w : World), wpAnyH P md ops Q S' fuel listed a w → wpAnyH P md ops Q S fuel listed a w
  | 0, _, _, _, hh => hh
  | fuel + 1, _, _, _, hh => ⟨hh.1, fun i hi => wpOp_mono (fun a' w' h' => ⟨h _ h'.1, wpAnyH_more h fuel _ a' w' h'.2⟩) (hh.2 i hi)⟩
end

section
open Go.ChangeShapes Go.WideShapes Go.ChangeAt
variable {H : Type} {enc : TypeId × Value → H} {P : Program} {W W' : World}
theorem trodAll_below (hl : laidOutB P = true) (hb : Below W.heap.size W W') : ∀ {ts : List TypeId} {vs : List Value} {ds : List (DataW H)} {ps : List MemPlace},
    (ts.all fun t => P.readableRec t && decide (t < P.types.size)) = true → DataW.TrodAll enc P W 0 (fun _ => true) true ts vs ds ps → (∀ x ∈ ps, x.block < W.heap.size) →
    DataW.TrodAll enc P W' 0 (fun b => decide (b < W.heap.size)) true ts vs ds ps
  | [], _, _, _, _, h, _ => by
    obtain ⟨rfl, rfl, rfl⟩ := trodAll_nil h
    exact trodAll_mk0
  | t :: ts, _, _, _, hr, h, hlt => by
    obtain ⟨v, vs1, d, ds1, a, b, rfl, rfl, rfl, h1, h2⟩ := trodAll_cons h
    simp only [List.all_cons, Bool.and_eq_true, decide_eq_true_eq] at hr
    exact trodAll_cons_mk (Below.trod hl hr.1.1 hr.1.2 h1 hb (fun x hx => hlt x (by simp [hx]))) (trodAll_below hl hb hr.2 h2 (fun x hx => hlt x (by simp [hx])))

/-- The row's last step of a law: it answered true, and nothing that was there has turned. -/
theorem law_post {f : Func} {s : ChangeSpec} {T : TypeId} {args : Array Value} {ds : List (DataW H)} {before : List MemPlace} (hl : laidOutB P = true)
    (hr : (f.params.toList.all fun t => P.readableRec t && decide (t < P.types.size)) = true) (hT : P.underlying T = some .bool) (hf : f.resultTypes.toList = [T]) (hfs : f.resultTypes.size = 1)
    (hW : DataW.Whole enc P f.params.toList s.vars false W args.toList ds [] before) (hv : s.vars = [])
    (hres : (s.fn H (ds ++ [])).results = [.lit (.bool true)]) (hargs : (s.fn H (ds ++ [])).args = ds) (hvs : (s.fn H (ds ++ [])).vars = [])
    (hb : Below W.heap.size W W') : s.post enc P f false true false false W args (.bool true) W' := by
  have hlt : ∀ p ∈ before, p.block < W.heap.size := fun p hp => hW.lt p hp
  have hW0 := hW
  obtain ⟨p, q, hA, hV, rfl, hfz, hnd⟩ := hW
  refine ⟨ds, [], p ++ q, [], p, [], hW0, ?_, ?_, ?_, ?_, fun h => by cases h⟩
  · rw [hres, hf, hfs]
    exact trodAll_cons_mk (shut_bool hT _) trodAll_mk0
  · rw [hargs]
    exact trodAll_below hl hb hr hA (fun x hx => hlt x (by simp [hx]))
  · rw [hvs, hv]; rfl
  · exact World.keptBut_mono (fun _ h => h.elim) (hb.frame (fun _ => False))
end
end Go.Proofs.YtoepchgoacdodaaDoor
