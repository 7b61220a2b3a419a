/-
  General lemmas of this seat: no program. Byte buffers (a []byte of the call's own) as lists of bytes; frames.
-/
import Derived.WalkKit
import Derived.ProofKit
import Derived.Handy
import Derived.Lib.Hide
import Derived.Deep.QuietTactic
import Derived.BigQuiet
import Derived.Deep.RegionWith
import Derived.WalkSpells
import Derived.StillTailTactics
import Derived.Deep.RegionHeld3
import Derived.Deep.DeepCutAuto
import Derived.Deep.LoopGhost
import Derived.SizedLaws
import Derived.Deep.CondSized
import Derived.Carry
import Derived.ShutString
import Derived.Lib.SmallJoins
set_option linter.unusedVariables false
set_option linter.unusedSimpArgs false
namespace Go.Proofs.Ytibhffdimcmcoaa
open Go.RowKit

theorem drop_cons (s : ByteArray) (k : Nat) (h : k < s.size) : s.data.toList.drop k = s[k] :: s.data.toList.drop (k + 1) := by
  rw [List.drop_eq_getElem_cons (by simpa using h)]; rfl

def bytesV (l : List UInt8) : List Value := l.map fun c => Value.int .u8 (c.toNat : Int)
theorem bytesV_length (l : List UInt8) : (bytesV l).length = l.length := by simp [bytesV]
theorem bytesV_append (l r : List UInt8) : bytesV (l ++ r) = bytesV l ++ bytesV r := by simp [bytesV]

/-- A slice of bytes of the call's own (nil, or at the head of a row from block 'base' on) that holds l. -/
def Buf (U : TypeId) (w : World) (base : Nat) (v : Value) (l : List UInt8) : Prop := w.ownsRow base U 1 v l.length (bytesV l)

theorem Buf.nil (U : TypeId) (w : World) (base : Nat) : Buf U w base (.slice none 0 0) [] := World.ownsRow_nil w base U 1
theorem Buf.alloc {U : TypeId} {w : World} {base : Nat} {v : Value} {l : List UInt8} (h : Buf U w base v l) (o : Obj) : Buf U (w.alloc o) base v l := World.ownsRow.alloc h o
theorem Buf.drew {U : TypeId} {w : World} {base : Nat} {v : Value} {l : List UInt8} (h : Buf U w base v l) : Buf U w.drew base v l := h

theorem below_drewN {B : Nat} {a w : World} (h : Below B a w) (n : Nat) : Below B a (w.drewN n) := ⟨h.os, h.tape, h.output, h.size, h.block⟩

theorem cells_new (w : World) (xs : Array Value) (T : TypeId) (l : List UInt8) (h : xs.toList = bytesV l) :
    ∀ j u, l[j]? = some u → (w.alloc (.cells xs T)).cell? ((⟨w.heap.size, 0, none⟩ : Addr).add j) = some (.int .u8 (u.toNat : Int)) := by
  intro j u hj
  have hx : xs[j]? = some (.int .u8 (u.toNat : Int)) := by
    rw [← Array.getElem?_toList, h]; simp [bytesV, hj]
  have ha : (⟨w.heap.size, 0, none⟩ : Addr).add j = ⟨w.heap.size, j, none⟩ := by unfold Addr.add; split <;> simp_all
  rw [ha, cell_of_row (w.alloc (.cells xs T)) w.heap.size j xs T (0, 0) (heap_alloc_new w _), hx]

theorem buf_string {P : Program} {w : World} {U src dst : TypeId} {base : Nat} {v : Value} {l : List UInt8} (hs : P.underlying src = some (.slice U)) (hU : P.underlying U = some (.int .u8)) (hd : P.underlying dst = some .string)
    (h : Buf U w base v l) : (convert src dst v).run P w = .ok (.string ⟨l.toArray⟩) w := by
  rcases h.2 with ⟨rfl, h0⟩ | ⟨g, cap, cur, rfl, _, hh, hnc, _, hsz, htk⟩
  · have : l = [] := List.eq_nil_of_length_eq_zero h0
    subst this
    exact run_convert_bytes_nil w src U hs hU 0 0 dst hd
  · have := run_convert_bytes_arg (P := P) w src U hs hU g 0 l.length cap (l.map fun c => (c.toNat : Int)) (by simp) (fun i hi => ?_) dst hd
    · rw [this]
      congr 2
      unfold strOfNums
      simp [List.map_map, Function.comp_def]
    · have h1 : (bytesV l)[i]? = some (.int .u8 (l[i].toNat : Int)) := by simp [bytesV, hi]
      have h2 := World.ownsRow.cells h (g := g) rfl i _ h1
      have ha : (⟨g, 0, none⟩ : Addr).add i = ⟨g, 0 + i, none⟩ := by unfold Addr.add; split <;> simp_all
      rw [ha] at h2
      rw [h2]
      simp [List.getD, hi]

section
variable {P : Program} (w : World)

theorem wpList_buf_append {ops : Array Oper} {rest : List Oper} {o : Oper} {a : Act} {Q : Exit → Act → World → Prop} (hgd : o.guard = none) (s x : Operand) (t : TypeId)
    (ho : o.op = .call { callee := .builtin .append, args := #[s, x], argTypes := #[t, t] })
    (U : TypeId) (ht : P.underlying t = some (.slice U)) (hinfo : (P.info? U).map (fun i => (i.zero, i.size, i.bytes)) = some (some (.int .u8 0), 1, 1))
    (base : Nat) (v : Value) (l : List UInt8) (hs : a.eval s = v) (hbuf : Buf U w base v l)
    (ad : Addr) (m c : Nat) (news : List UInt8) (hx : a.eval x = .slice (some ad) m c) (hm : m = news.length)
    (hcells : ∀ j u, news[j]? = some u → w.cell? (ad.add j) = some (.int .u8 (u.toNat : Int))) (hlen : l.length + news.length ≤ 140737488355328) (hbase : base ≤ w.heap.size)
    (h : ∀ v' w', Buf U w' base v' (l ++ news) → Below base w w' → wpList P ops Q rest (a.put o.dst v') w') : wpList P ops Q (o :: rest) a w := by
  obtain ⟨i0, hi, hz, hz1, hz2⟩ := info_parts hinfo
  subst hm
  refine wpList_append_own w hgd s x t ho base U i0 (.int .u8 0) 1 1 ht hi hz hz1 hz2 rfl (by decide) v l.length (bytesV l) hs hbuf ad news.length c (bytesV news) hx (by simp [bytesV]) ?_ ?_ ?_ ?_ hbase ?_
  · intro j u hj
    simp only [bytesV, List.getElem?_map, Option.map_eq_some_iff] at hj
    obtain ⟨u', hu, rfl⟩ := hj
    exact hcells j u' hu
  · intro u hu
    simp only [bytesV, List.mem_map] at hu
    obtain ⟨u', _, rfl⟩ := hu
    rfl
  · simp only [maxLen]; omega
  · omega
  · intro v' w' hown hg hat
    refine h v' w' ?_ ?_
    · unfold Buf
      rw [bytesV_append, List.length_append]
      exact hown
    · refine (Below.refl base w).grown hg hbase (fun k hk => ?_)
      exact (World.ownsRow.lt hbuf k hk).1
end

section
open Go.ChangeShapes Go.WideShapes Go.ChangeAt
variable {H : Type} {enc : TypeId × Value → H} {P : Program} {W W' : World}
theorem trodAll_below (hl : laidOutB P = true) (hb : Below W.heap.size W W') : ∀ {ts : List TypeId} {vs : List Value} {ds : List (DataW H)} {ps : List MemPlace},
    (ts.all fun t => P.readableRec t && decide (t < P.types.size)) = true → DataW.TrodAll enc P W 0 (fun _ => true) true ts vs ds ps → (∀ x ∈ ps, x.block < W.heap.size) →
    DataW.TrodAll enc P W' 0 (fun b => decide (b < W.heap.size)) true ts vs ds ps
  | [], _, _, _, _, h, _ => by
    obtain ⟨rfl, rfl, rfl⟩ := trodAll_nil h
    exact trodAll_mk0
  | t :: ts, _, _, _, hr, h, hlt => by
    obtain ⟨v, vs1, d, ds1, a, b, rfl, rfl, rfl, h1, h2⟩ := trodAll_cons h
    simp only [List.all_cons, Bool.and_eq_true, decide_eq_true_eq] at hr
    exact trodAll_cons_mk (Below.trod hl hr.1.1 hr.1.2 h1 hb (fun x hx => hlt x (by simp [hx]))) (trodAll_below hl hb hr.2 h2 (fun x hx => hlt x (by simp [hx])))

/-- The row's last step of a law: it answered true, and nothing that was there has turned. -/
theorem law_post {f : Func} {s : ChangeSpec} {T : TypeId} {args : Array Value} {ds : List (DataW H)} {before : List MemPlace} (hl : laidOutB P = true)
    (hr : (f.params.toList.all fun t => P.readableRec t && decide (t < P.types.size)) = true) (hT : P.underlying T = some .bool) (hf : f.resultTypes.toList = [T]) (hfs : f.resultTypes.size = 1)
    (hW : DataW.Whole enc P f.params.toList s.vars false W args.toList ds [] before) (hv : s.vars = [])
    (hres : (s.fn H (ds ++ [])).results = [.lit (.bool true)]) (hargs : (s.fn H (ds ++ [])).args = ds) (hvs : (s.fn H (ds ++ [])).vars = [])
    (hb : Below W.heap.size W W') : s.post enc P f false true false false W args (.bool true) W' := by
  have hlt : ∀ p ∈ before, p.block < W.heap.size := fun p hp => hW.lt p hp
  have hW0 := hW
  obtain ⟨p, q, hA, hV, rfl, hfz, hnd⟩ := hW
  refine ⟨ds, [], p ++ q, [], p, [], hW0, ?_, ?_, ?_, ?_, fun h => by cases h⟩
  · rw [hres, hf, hfs]
    exact trodAll_cons_mk (shut_bool hT _) trodAll_mk0
  · rw [hargs]
    exact trodAll_below hl hb hr hA (fun x hx => hlt x (by simp [hx]))
  · rw [hvs, hv]; rfl
  · exact World.keptBut_mono (fun _ h => h.elim) (hb.frame (fun _ => False))
end
end Go.Proofs.Ytibhffdimcmcoaa
