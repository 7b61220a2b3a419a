/-
 Contracts of package json: quoting.
-/
import Derived.Test.YtoepchgoacdodaaDoorRows
import Derived.Test.YtoepchgoacdodaaDoorJsonQ
import Derived.Test.YtoepchgoacdodaaDoorBufL
import Derived.Test.YtoepchgoacdodaaDoorBstr
import Derived.Deep.RegionLaw
set_option linter.unusedVariables false
set_option linter.unusedSimpArgs false
namespace Go.Proofs.YtoepchgoacdodaaDoor
open Go.RowKit
theorem u8J : (Tryd.prog.info? 5).map (fun i => (i.zero, i.size, i.bytes)) = some (some (.int .u8 0), 1, 1) := by kernel_rfl
theorem and15 : ∀ n : Nat, n < 256 → bits BinOp.and IntKind.u8 (n : Int) 15 = ((n % 16 : Nat) : Int) := by decide +kernel
def hexS : ByteArray := ⟨#[48, 49, 50, 51, 52, 53, 54, 55, 56, 57, 97, 98, 99, 100, 101, 102]⟩
theorem hex_get : ∀ k : Nat, ∀ h : k < 16, ((hexS[k]'h).toNat : Int) = ((hexD k).toNat : Int) := by decide
theorem quoteI_take (l : List UInt8) (k : Nat) (h : k < l.length) : quoteI (l.take (k + 1)) = quoteI (l.take k) ++ qB l[k] := by
  rw [List.take_succ_eq_append_getElem h, quoteI_append]; simp [quoteI]
set_option maxHeartbeats 4000000 in
set_option maxRecDepth 100000 in
theorem quote_any (base : Nat) (v : Value) (l : List UInt8) (s : ByteArray) (w : World) (hl : l.length + 6 * s.size + 2 ≤ 140737488355328) (hbuf : Buf 5 w base v l) (hbase : base ≤ w.heap.size) :
    Calls Tryd.prog 8 #[v, .string s] w fun e w' => ∃ v', e = .returned v' ∧ Buf 5 w' base v' (l ++ quoteL s.data.toList) ∧ Gr 5 base w w' := by
  go_enter Tryd.func8, Tryd.ntmps8
  go_wp2_with (at_builtin; refine wpList_buf_lit rfl _ _ 33 rfl 5 Tryd.underlying33 u8J base _ l rfl hbuf _ _ [34] rfl 1 1 rfl rfl (by simp; omega) hbase ?_)
  intro v1 w1 hb1 hB1
  go_wp2_with fail
  go_loopw [0, 12] (fun b i wr => ∃ (v' : Value) (k : Nat), b = v' ∧ i = .int .i64 k ∧ k ≤ s.size ∧ Buf 5 wr base v' (l ++ 34 :: quoteI (s.data.toList.take k)) ∧ Gr 5 base w wr) (fun _ i _ => s.size - (intOf i).toNat)
  case atStart => exact ⟨v1, 0, rfl, rfl, Nat.zero_le _, by simpa [quoteI] using hb1, hB1⟩
  case round =>
    obtain ⟨v', k, rfl, rfl, hk, hb, hB⟩ := hrel
    have hbs := Nat.le_trans hbase hB.1.size
    have hql := quoteI_len (s.data.toList.take k)
    have hqt : (s.data.toList.take k).length = k := by simp; omega
    have hlen : (l ++ 34 :: quoteI (s.data.toList.take k)).length = l.length + 1 + (quoteI (s.data.toList.take k)).length := by simp; omega
    by_cases hlt : k < s.size
    · have hq := quoteI_take s.data.toList k (by simpa using hlt)
      have hc : s.data.toList[k]'(by simpa using hlt) = s[k] := rfl
      rw [hc] at hq
      have hrow : ∀ news : List UInt8, news.length ≤ 6 → (l ++ 34 :: quoteI (s.data.toList.take k)).length + news.length ≤ 140737488355328 := by
        intro news hn; have := hql.2; rw [hqt] at this; omega
      have hlt' := (s[k]).toNat_lt
      have hQ : ∀ W v2, Buf 5 W base v2 (l ++ 34 :: (quoteI (s.data.toList.take k) ++ qB s[k])) → Buf 5 W base v2 (l ++ 34 :: quoteI (s.data.toList.take (k + 1))) := by
        intro W v2 h; rw [hq]; simpa using h
      have HQ := Lib.hid hQ
      clear hQ hq hc hql hqt hlen
      by_cases h34 : s[k] = 34 ∨ s[k] = 92
      · have e : qB s[k] = [92, s[k]] := by unfold qB; rw [if_pos h34]
        rw [e] at HQ
        have hb2 : ((((s[k]).toNat : Int) == 34) = true ∨ (((s[k]).toNat : Int) == 34) = false ∧ (((s[k]).toNat : Int) == 92) = true) := by
          rcases h34 with h | h
          · rw [h]; exact .inl rfl
          · rw [h]; exact .inr ⟨rfl, rfl⟩
        clear e h34
        rcases hb2 with h1 | ⟨h1, h2⟩
        all_goals
          go_wp2_with (at_builtin; refine wpList_buf_lit rfl _ _ 33 rfl 5 Tryd.underlying33 u8J base _ _ rfl hb _ _ [92, s[k]] rfl 2 2 rfl rfl (hrow _ (by simp)) hbs ?_)
          intro v2 w2 hb2 hB2
          go_wp2_with fail
          go_roundw
          case rel => exact ⟨v2, k + 1, rfl, by go_num, hlt, HQ.out _ _ hb2, hB.trans hB2⟩
          case measure => simp [intOf]; omega
      · have n34 : (((s[k]).toNat : Int) == 34) = false := beq_eq_false_iff_ne.2 (fun h => h34 (.inl (UInt8.toNat_inj.1 (by simpa using Int.ofNat.inj h))))
        have n92 : (((s[k]).toNat : Int) == 92) = false := beq_eq_false_iff_ne.2 (fun h => h34 (.inr (UInt8.toNat_inj.1 (by simpa using Int.ofNat.inj h))))
        by_cases h32 : s[k] < 32
        · have e : qB s[k] = [92, 117, 48, 48, hexD ((s[k]).toNat / 16), hexD ((s[k]).toNat % 16)] := by unfold qB; rw [if_neg h34, if_pos h32]
          have l32 : ((s[k]).toNat : Int) < 32 := by have : (s[k]).toNat < 32 := (by simpa [UInt8.lt_iff_toNat_lt] using h32); omega
          obtain ⟨x, hx⟩ : ∃ x, x = (s[k]).toNat / 16 := ⟨_, rfl⟩
          obtain ⟨y, hy⟩ : ∃ y, y = (s[k]).toNat % 16 := ⟨_, rfl⟩
          have hx16 : x < 16 := by omega
          have hy16 : y < 16 := by omega
          have i1 := hex_get x hx16
          have i2 := hex_get y hy16
          unfold hexS at i1 i2
          have e16 : ((s[k]).toNat : Int) / 16 = (x : Int) := by omega
          have e15 : bits BinOp.and IntKind.u8 ((s[k]).toNat : Int) 15 = (y : Int) := by rw [hy]; exact and15 _ hlt'
          have g1 : (x : Int) < 16 := by omega
          have g2 : (y : Int) < 16 := by omega
          rw [← hx, ← hy] at e
          clear hx hy
          rw [e] at HQ
          clear e h34 h32
          have hbd := hb.drew
          have hbsd : base ≤ wr.drew.heap.size := hbs
          go_wp2_with fail
          go_region_law (refine step_buf_lit rfl _ _ 33 rfl 5 Tryd.underlying33 u8J base _ _ rfl hbd _ _ [92, 117, 48, 48, hexD x, hexD y] rfl 6 6 rfl rfl (hrow _ (by simp)) hbsd ?_; intro v2 w2 hb2 hB2)
          all_goals
            go_wp2_with fail
            go_roundw
            case rel => exact ⟨v2, k + 1, rfl, by go_num, hlt, HQ.out _ _ (by simpa using hb2), hB.trans ((Gr.drew _ _ _).trans hB2)⟩
            case measure => simp [intOf]; omega
        · have e : qB s[k] = [s[k]] := by unfold qB; rw [if_neg h34, if_neg h32]
          have l32 : ¬ ((s[k]).toNat : Int) < 32 := by intro h; exact h32 (by rw [UInt8.lt_iff_toNat_lt]; show (s[k]).toNat < 32; omega)
          rw [e] at HQ
          clear e h34 h32
          go_wp2_with (at_builtin; refine wpList_buf_lit rfl _ _ 33 rfl 5 Tryd.underlying33 u8J base _ _ rfl hb _ _ [s[k]] rfl 1 1 rfl rfl (hrow _ (by simp)) hbs ?_)
          intro v2 w2 hb2 hB2
          go_wp2_with fail
          go_roundw
          case rel => exact ⟨v2, k + 1, rfl, by go_num, hlt, HQ.out _ _ hb2, hB.trans hB2⟩
          case measure => simp [intOf]; omega
    · obtain rfl : k = s.size := by omega
      have ht : s.data.toList.take s.size = s.data.toList := List.take_of_length_le (by simp)
      rw [ht] at hb hlen hql
      have hL : (l ++ 34 :: quoteI s.data.toList).length + [(34 : UInt8)].length ≤ 140737488355328 := by
        rw [hlen]; have h1 := hql.2; have h2 : s.data.toList.length = s.size := (by simp); rw [h2] at h1; simp only [List.length_cons, List.length_nil]; omega
      clear hlen hql hqt ht
      go_wp2_with (at_builtin; refine wpList_buf_lit rfl _ _ 33 rfl 5 Tryd.underlying33 u8J base _ _ rfl hb _ _ [34] rfl 1 1 rfl rfl hL hbs ?_)
      intro v2 w2 hb2 hB2
      go_wp2_with fail
      go_ret
      exact ⟨v2, rfl, by simpa [quoteL] using hb2, hB.trans hB2⟩
set_option maxHeartbeats 1000000 in
set_option maxRecDepth 100000 in
theorem Quote_any (s : ByteArray) (w : World) (hs : 6 * s.size + 2 ≤ 140737488355328) :
    Calls Tryd.prog 6 #[.string s] w fun e w' => e = .returned (.string (bstr (quoteL s.data.toList))) ∧ Below w.heap.size w w' := by
  have HQ := Lib.hid (quote_any w.heap.size (.slice none 0 0) [] s w (by simpa using hs) (Buf.nil _ _ _) (Nat.le_refl _))
  go_enter Tryd.func6, Tryd.ntmps6
  go_wp2_with (go_at_call 8; refine HQ.out.mono ?_; rintro e w1 ⟨v1, rfl, hb, hbel⟩; have hcv := buf_string (P := Tryd.prog) (U := 5) (src := 33) (dst := 9) Tryd.underlying33 Tryd.underlying5 Tryd.underlying9 hb)
  go_ret
  exact ⟨by simp [bstr], hbel.1⟩
end Go.Proofs.YtoepchgoacdodaaDoor
