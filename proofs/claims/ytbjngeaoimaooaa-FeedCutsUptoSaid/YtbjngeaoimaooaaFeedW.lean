/-
  Contracts of package feed over this seat's translation.
-/
import Derived.Test.YtbjngeaoimaooaaFrameT
import Derived.Test.YtbjngeaoimaooaaFeedP
import Derived.Maps.AppendAt
import Derived.Deep.AppendLies
import Derived.Deep.LoopGhost
set_option linter.unusedVariables false
set_option linter.unusedSimpArgs false
namespace Go.Proofs.Ytbjngeaoimaooaa
open Go.RowKit

def cellsFr (l : List Fr) : List Value := l.flatMap fun x => [Value.int .i64 (x.ver : Int), Value.int .i64 (x.kind : Int), Value.string (bstr x.pl)]
theorem cellsFr_append (l r : List Fr) : cellsFr (l ++ r) = cellsFr l ++ cellsFr r := by simp [cellsFr]
/-- A slice of frames of the call's own holds l. -/
def OwnF (w : World) (base : Nat) (v : Value) (l : List Fr) : Prop := w.ownsRow base 34 3 v l.length (cellsFr l)
/-- All old blocks but g are as they were. -/
def Asd (w : World) (g : Nat) (w' : World) : Prop := w.grownBy w' (some g)
theorem Asd.refl (w : World) (g : Nat) : Asd w g w := World.grownBy.refl w _
theorem Asd.below {w a b : World} {g B : Nat} (h : Asd w g a) (hb : Below B a b) (hB : w.heap.size ≤ B) : Asd w g b :=
  ⟨hb.os.trans h.os, hb.tape.trans h.tape, hb.output.trans h.output, Nat.le_trans h.size hb.size, fun k hk hne => (hb.block k (Nat.lt_of_lt_of_le hk hB)).trans (h.block k hk hne)⟩
theorem Asd.alloc {w a : World} {g : Nat} (h : Asd w g a) (o : Obj) : Asd w g (a.alloc o) := h.below ((Below.refl a.heap.size a).alloc (Nat.le_refl _) o) h.size
theorem Asd.set_ {w a : World} {g : Nat} (h : Asd w g a) (i : Nat) (u : Value) : Asd w g (a.setCell ⟨g, i, none⟩ u) :=
  ⟨h.os, h.tape, h.output, by have := h.size; simpa using this, fun k hk hne => by
    refine (Below.heap_setCell a ⟨g, i, none⟩ u k ?_).trans (h.block k hk hne)
    intro h0; exact hne (by rw [h0])⟩
theorem Asd.grown {w a b : World} {g : Nat} {row : Option Nat} (h : Asd w g a) (hb : a.grownBy b row) (hr : ∀ k, row = some k → w.heap.size ≤ k) : Asd w g b :=
  ⟨hb.os.trans h.os, hb.tape.trans h.tape, hb.output.trans h.output, Nat.le_trans h.size hb.size, fun k hk hne => (hb.block k (Nat.lt_of_lt_of_le hk h.size) (fun h0 => by have := hr k h0.symm; omega)).trans (h.block k hk hne)⟩
theorem OwnF.below {a b : World} {base : Nat} {v : Value} {l : List Fr} (h : OwnF a base v l) (hb : Below a.heap.size a b) : OwnF b base v l :=
  World.ownsRow.kept (row := none) h ⟨hb.os, hb.tape, hb.output, hb.size, fun k hk _ => hb.block k hk⟩ (Classical.em _)
theorem OwnF.alloc {a : World} {base : Nat} {v : Value} {l : List Fr} (h : OwnF a base v l) (o : Obj) : OwnF (a.alloc o) base v l := World.ownsRow.alloc h o
theorem OwnF.set_ {a : World} {base g : Nat} {v : Value} {l : List Fr} (h : OwnF a base v l) (hg : g < base) (i : Nat) (u : Value) : OwnF (a.setCell ⟨g, i, none⟩ u) base v l :=
  World.ownsRow.kept (row := some g) h ((Asd.refl a g).set_ i u) (.inr (fun h0 => by have := (World.ownsRow.lt h g h0).1; omega))
theorem Blk.grown {a b : World} {g : Nat} {t : TypeId} {cs : Array Value} {row : Option Nat} (h : Blk a g t cs) (hb : a.grownBy b row) (hr : some g ≠ row) : Blk b g t cs := (hb.block g h.lt hr).trans h
/-- What a push leaves. -/
def PushPost (w : World) (g at_ : Nat) (L : List UInt8) (r : FeedR) (e : Ending) (w' : World) : Prop :=
  ∃ v, e = .returned (.tuple #[v, .int .i64 ((if r.e = 3 then 0 else r.e : Nat) : Int)]) ∧ OwnF w' w.heap.size v r.out ∧
    Blk w' g 43 #[.string (bstr (if r.e = 3 then L.drop r.n else [])), .int .i64 ((at_ + r.n : Nat) : Int), .int .i64 ((if r.e = 3 then 0 else r.e : Nat) : Int)] ∧ Asd w g w'
theorem feedN_e (f : Nat) (l : List UInt8) : (feedN f l).e ≠ 0 := by
  induction f generalizing l with
  | zero => simp [feedN]
  | succ f ih =>
    unfold feedN
    by_cases h : (decF l).e = 0
    · rw [if_pos h]; exact ih _
    · rw [if_neg h]; exact h
set_option maxHeartbeats 4000000 in
set_option maxRecDepth 100000 in
theorem push_any (g at_ : Nat) (rest s : ByteArray) (w : World) (hb : Blk w g 43 #[.string rest, .int .i64 (at_ : Int), .int .i64 0]) (hL : at_ + rest.size + s.size ≤ 2305843009213693952) (hC : (feedF (rest ++ s).data.toList).out.length ≤ 4398046511104) :
    Calls Try.prog 9 #[.pointer (some ⟨g, 0, none⟩), .string s] w fun e w' => PushPost w g at_ (rest ++ s).data.toList (feedF (rest ++ s).data.toList) e w' := by
  obtain ⟨i0, hi, hz0, hz1, hz2⟩ := info_parts frame_info
  have hz := zero_frame_lit
  have hglt := hb.lt
  have c0 : w.cell? ⟨g, 0, none⟩ = some (Value.string rest) := hb.cell 0
  have c2 : w.cell? ⟨g, 2, none⟩ = some (Value.int .i64 0) := hb.cell 2
  have f0 := hb.frozen 0
  have hadd : ∀ W, (Op.stringOp .add rest s).run Try.prog W = .ok (.string (rest ++ s)) W := fun W => run_string_add_sum W _ _ (by omega)
  have hsz : (rest ++ s).size = rest.size + s.size := ByteArray.size_append
  generalize rest ++ s = R at *
  have HC := Lib.hid hC
  clear hC
  have hRl : R.data.toList.length = R.size := by simp
  go_enter Try.func9, Try.ntmps9
  go_wp2_with fail
  go_loopg [6] (R.size + 1) (fun gk out wx => ∃ (r : ByteArray) (acc : List Fr) (n : Nat), Blk wx g 43 #[.string r, .int .i64 ((at_ + n : Nat) : Int), .int .i64 0] ∧ OwnF wx w.heap.size out acc ∧ Asd w g wx ∧ Hid (feedF R.data.toList = ⟨acc ++ (feedF r.data.toList).out, n + (feedF r.data.toList).n, (feedF r.data.toList).e⟩ ∧ r.data.toList = R.data.toList.drop n) ∧ n + r.size = R.size ∧ r.size < gk)
  case atStart =>
    refine ⟨R, [], 0, ?_, World.ownsRow_nil _ _ _ _, (Asd.refl w g).set_ 0 _, ⟨by simp, by simp⟩, by omega, by omega⟩
    have := hb.set_ 0 (Value.string R)
    simpa using this
  case round =>
    obtain ⟨r, acc, n, hbl, ho, ha, H, hn, hgk⟩ := hrel
    obtain ⟨gk', rfl⟩ : ∃ k, gk = k + 1 := ⟨gk - 1, by omega⟩
    have c0 : wr.cell? ⟨g, 0, none⟩ = some (Value.string r) := hbl.cell 0
    have c1 : wr.cell? ⟨g, 1, none⟩ = some (Value.int .i64 ((at_ + n : Nat) : Int)) := hbl.cell 1
    by_cases he : (decF r.data.toList).e = 0
    · have hD := decode_good r (by omega) he
      have hI := decF_inv r.data.toList he
      have hpos := decF_pos r.data.toList he
      have hok := feedF_ok r.data.toList he
      have hacc : acc.length + 1 ≤ 4398046511104 := by
        have h1 := HC.out
        rw [H.out.1, hok] at h1
        simp at h1
        omega
      generalize decF r.data.toList = d at *
      have HD := Lib.hid hD
      have HO := Lib.hid hok
      have hdn : d.n ≤ r.size := by have := hI.2.2.2.2; simpa using this
      clear hD hok hI hb c2 f0 hadd
      go_wp2_with fail
      refine (HD.out _).mono ?_
      rintro e w1 ⟨rfl, hb1⟩
      have b1 := hbl.below hb1 hbl.lt
      have a1 := ha.below hb1 ha.size
      have o1 := ho.below hb1
      have hlt1 := b1.lt
      have hs1 := a1.size
      have b2 := (b1.alloc (.cells #[Value.int .i64 (d.ver : Int), Value.int .i64 (d.kind : Int), Value.string (bstr d.pl)] 34)).alloc (.cells #[Value.int .i64 (d.ver : Int), Value.int .i64 (d.kind : Int), Value.string (bstr d.pl)] 34)
      have a2 := (a1.alloc (.cells #[Value.int .i64 (d.ver : Int), Value.int .i64 (d.kind : Int), Value.string (bstr d.pl)] 34)).alloc (.cells #[Value.int .i64 (d.ver : Int), Value.int .i64 (d.kind : Int), Value.string (bstr d.pl)] 34)
      have o2 := (o1.alloc (.cells #[Value.int .i64 (d.ver : Int), Value.int .i64 (d.kind : Int), Value.string (bstr d.pl)] 34)).alloc (.cells #[Value.int .i64 (d.ver : Int), Value.int .i64 (d.kind : Int), Value.string (bstr d.pl)] 34)
      have bx := Blk.new w1 34 #[Value.int .i64 (d.ver : Int), Value.int .i64 (d.kind : Int), Value.string (bstr d.pl)]
      have g0 : (w1.alloc (.cells #[Value.int .i64 (d.ver : Int), Value.int .i64 (d.kind : Int), Value.string (bstr d.pl)] 34)).cell? ⟨w1.heap.size, 0, none⟩ = some (Value.int .i64 (d.ver : Int)) := bx.cell 0
      have g1 : (w1.alloc (.cells #[Value.int .i64 (d.ver : Int), Value.int .i64 (d.kind : Int), Value.string (bstr d.pl)] 34)).cell? ⟨w1.heap.size, 1, none⟩ = some (Value.int .i64 (d.kind : Int)) := bx.cell 1
      have g2 : (w1.alloc (.cells #[Value.int .i64 (d.ver : Int), Value.int .i64 (d.kind : Int), Value.string (bstr d.pl)] 34)).cell? ⟨w1.heap.size, 2, none⟩ = some (Value.string (bstr d.pl)) := bx.cell 2
      have hdi : (d.n : Int) ≤ (r.size : Int) := by omega
      have bn := Blk.new (w1.alloc (.cells #[Value.int .i64 (d.ver : Int), Value.int .i64 (d.kind : Int), Value.string (bstr d.pl)] 34)) 34 #[Value.int .i64 (d.ver : Int), Value.int .i64 (d.kind : Int), Value.string (bstr d.pl)]
      clear c0 c1 hbl ho ha hb1
      have bm : Blk ((w1.alloc (.cells #[Value.int .i64 (d.ver : Int), Value.int .i64 (d.kind : Int), Value.string (bstr d.pl)] 34)).alloc (.cells #[Value.int .i64 (d.ver : Int), Value.int .i64 (d.kind : Int), Value.string (bstr d.pl)] 34)) (w1.heap.size + 1) 34 #[Value.int .i64 (d.ver : Int), Value.int .i64 (d.kind : Int), Value.string (bstr d.pl)] := by
        rwa [show (w1.alloc (.cells #[Value.int .i64 (d.ver : Int), Value.int .i64 (d.kind : Int), Value.string (bstr d.pl)] 34)).heap.size = w1.heap.size + 1 by simp] at bn
      obtain ⟨news, hnews⟩ : ∃ news, news = [Value.int .i64 (d.ver : Int), Value.int .i64 (d.kind : Int), Value.string (bstr d.pl)] := ⟨_, rfl⟩
      have hl3 : news.length = 1 * 3 := by rw [hnews]; rfl
      have h13 : ∀ u ∈ news, u.oneCell' = true := by rw [hnews]; simp [Value.oneCell']
      have hcl : ∀ j u, news[j]? = some u → ((w1.alloc (.cells #[Value.int .i64 (d.ver : Int), Value.int .i64 (d.kind : Int), Value.string (bstr d.pl)] 34)).alloc (.cells #[Value.int .i64 (d.ver : Int), Value.int .i64 (d.kind : Int), Value.string (bstr d.pl)] 34)).cell? ((⟨w1.heap.size + 1, 0, none⟩ : Addr).add j) = some u := by rw [hnews]; exact World.news_of_block bm
      have hml : acc.length + 1 ≤ maxLen := by unfold maxLen; omega
      have hby : (acc.length + 1) * 32 ≤ 140737488355328 := by omega
      have hbs : w.heap.size ≤ ((w1.alloc (.cells #[Value.int .i64 (d.ver : Int), Value.int .i64 (d.kind : Int), Value.string (bstr d.pl)] 34)).alloc (.cells #[Value.int .i64 (d.ver : Int), Value.int .i64 (d.kind : Int), Value.string (bstr d.pl)] 34)).heap.size := by simp; omega
      go_wp2_with (first
        | (refine wpList_store_new rfl _ _ _ rfl rfl 34 _ _ rfl frame_size3 rfl (frA_one _ _ _) ?_)
        | (at_builtin; go_loud (refine wpList_append_own _ rfl _ _ 26 rfl w.heap.size 34 i0 _ 3 32 Try.underlying26 hi hz0 hz1 hz2 rfl (by decide) _ acc.length (cellsFr acc) rfl o2 ⟨w1.heap.size + 1, 0, none⟩ 1 1 news rfl hl3 hcl h13 hml hby hbs ?_)))
      intro v2 w2 hown hg hnil
      have hgne : some g ≠ Value.ownBlock _ := fun h0 => by have := (World.ownsRow.lt o2 g h0.symm).1; omega
      have b3 := b2.grown hg hgne
      have a3 := a2.grown hg (fun k hk => (World.ownsRow.lt o2 k hk).1)
      clear b2 a2 o2 bx bn bm hcl hl3 h13 hml hby hbs g0 g1 g2 hg hnil b1 a1 o1
      have c0 : w2.cell? ⟨g, 0, none⟩ = some (Value.string r) := b3.cell 0
      have c1 : w2.cell? ⟨g, 1, none⟩ = some (Value.int .i64 ((at_ + n : Nat) : Int)) := b3.cell 1
      have f0 := b3.frozen 0
      have f1 := b3.frozen 1
      go_wp2_with fail
      have hi3 := HO.out
      have hRd : (r.extract d.n r.size).data.toList = r.data.toList.drop d.n := by
        simp [ByteArray.data_extract, List.extract_eq_take_drop]
        exact List.take_of_length_le (by simp)
      have hsz3 : (r.extract d.n r.size).size = r.size - d.n := by rw [ByteArray.size_extract]; omega
      go_roundg gk'
      case rel =>
        refine ⟨r.extract d.n r.size, acc ++ [⟨d.ver, d.kind, d.pl⟩], n + d.n, ?_, ?_, (a3.set_ 0 _).set_ 1 _, ⟨?_, ?_⟩, by omega, by omega⟩
        · have hB := (b3.set_ 0 (Value.string (r.extract d.n r.size))).set_ 1 (Value.int .i64 ((at_ + (n + d.n) : Nat) : Int))
          have hE : ((at_ + (n + d.n) : Nat) : Int) = (at_ : Int) + (n : Int) + (d.n : Int) := by omega
          first
            | exact hB
            | (rw [hE] at hB ⊢; exact hB)
        · have h0 : OwnF w2 w.heap.size v2 (acc ++ [⟨d.ver, d.kind, d.pl⟩]) := by
            unfold OwnF
            rw [cellsFr_append, List.length_append]
            exact hown
          exact (h0.set_ hglt 0 _).set_ hglt 1 _
        · rw [H.out.1, hi3, hRd]
          simp [Nat.add_assoc]
        · rw [hRd, H.out.2, List.drop_drop]
      case measure => omega
    · have hD := decode_bad r (by omega) he
      have hbad := feedF_bad r.data.toList he
      generalize (decF r.data.toList).e = z at *
      have HD := Lib.hid hD
      have HO := Lib.hid hbad
      clear hD hbad hb c2 f0 hadd
      have hz0 : ((z : Int) == 0) = false := beq_eq_false_iff_ne.2 (by omega)
      by_cases h3 : z = 3
      · subst h3
        go_wp2_with fail
        refine (HD.out _).mono ?_
        rintro e w1 ⟨rfl, hb1⟩
        have b2 := (hbl.below hb1 hbl.lt).alloc (.cells #[Value.int .i64 0, Value.int .i64 0, Value.string ByteArray.empty] 34)
        have a2 := (ha.below hb1 ha.size).alloc (.cells #[Value.int .i64 0, Value.int .i64 0, Value.string ByteArray.empty] 34)
        have o2 := (ho.below hb1).alloc (.cells #[Value.int .i64 0, Value.int .i64 0, Value.string ByteArray.empty] 34)
        have f0 := b2.frozen 0
        have f2 := b2.frozen 2
        have e0 : (w1.alloc (.cells #[Value.int .i64 0, Value.int .i64 0, Value.string ByteArray.empty] 34)).cell? ⟨g, 0, none⟩ = some (Value.string r) := b2.cell 0
        have e2 : (w1.alloc (.cells #[Value.int .i64 0, Value.int .i64 0, Value.string ByteArray.empty] 34)).cell? ⟨g, 2, none⟩ = some (Value.int .i64 0) := b2.cell 2
        have hF : feedF R.data.toList = ⟨acc, n, 3⟩ := by rw [H.out.1, HO.out]; simp
        go_wp2_with (refine wpList_store_new rfl _ _ _ rfl rfl 34 _ _ rfl frame_size3 rfl (frA_one _ _ _) ?_)
        go_ret2
        have hr : bstr (R.data.toList.drop n) = r := by rw [← H.out.2, bstr_self]
        show PushPost _ _ _ _ _ _ _
        rw [hF]
        refine ⟨_, rfl, o2, ?_, a2⟩
        show Blk _ g _ #[Value.string (bstr (R.data.toList.drop n)), _, _]
        rw [hr]
        exact b2
      · have h3b : ((z : Int) == 3) = false := beq_eq_false_iff_ne.2 (by omega)
        go_wp2_with fail
        refine (HD.out _).mono ?_
        rintro e w1 ⟨rfl, hb1⟩
        have b2 := (hbl.below hb1 hbl.lt).alloc (.cells #[Value.int .i64 0, Value.int .i64 0, Value.string ByteArray.empty] 34)
        have a2 := (ha.below hb1 ha.size).alloc (.cells #[Value.int .i64 0, Value.int .i64 0, Value.string ByteArray.empty] 34)
        have o2 := (ho.below hb1).alloc (.cells #[Value.int .i64 0, Value.int .i64 0, Value.string ByteArray.empty] 34)
        have f0 := b2.frozen 0
        have f2 := b2.frozen 2
        have e0 : (w1.alloc (.cells #[Value.int .i64 0, Value.int .i64 0, Value.string ByteArray.empty] 34)).cell? ⟨g, 0, none⟩ = some (Value.string r) := b2.cell 0
        have e2 : (w1.alloc (.cells #[Value.int .i64 0, Value.int .i64 0, Value.string ByteArray.empty] 34)).cell? ⟨g, 2, none⟩ = some (Value.int .i64 0) := b2.cell 2
        have hF : feedF R.data.toList = ⟨acc, n, z⟩ := by rw [H.out.1, HO.out]; simp
        go_wp2_with (refine wpList_store_new rfl _ _ _ rfl rfl 34 _ _ rfl frame_size3 rfl (frA_one _ _ _) ?_)
        go_ret2
        show PushPost _ _ _ _ _ _ _
        rw [hF]
        refine ⟨_, ?_, (o2.set_ hglt 0 _).set_ hglt 2 _, ?_, (a2.set_ 0 _).set_ 2 _⟩
        · rw [if_neg h3]; rfl
        · rw [if_neg h3, if_neg h3]
          exact (b2.set_ 0 _).set_ 2 _
end Go.Proofs.Ytbjngeaoimaooaa
