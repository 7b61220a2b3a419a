/-
  Several texts in one: PutN, PutJ.
-/
import Derived.Test.YtdicoepjkngikaaGreatDoorPkWrite
import Derived.Test.YtdicoepjkngikaaGreatDoorPkStateA
/-
  Contracts of wire.Put: leases.
-/
set_option linter.unusedVariables false
set_option linter.unusedSimpArgs false
namespace Go.Proofs.YtdicoepjkngikaaGreatDoor
open Go.RowKit
theorem encN_len {v : Int} {j : NodeD} (h : okNd v j) : (encN v j).length ≤ 62 := by
  have h1 := textB_len h.1
  have h2 : (putN j.room.toNat).length ≤ 10 := putN_len10 _ (by have := h.2.1.2; omega)
  have h3 : (if decide (1 < v) = true then textB j.zone.data.toList else []).length ≤ 26 := by
    have h9 := h.2.2
    split
    · rename_i hv; rw [if_pos hv] at h9; exact textB_len h9
    · simp
  unfold encN
  rw [List.length_append, List.length_append]; omega
theorem one_rowNx (x : NodeD) : (#[Value.string x.name, Value.int .i64 x.room, Value.string x.zone] : Array Value).all (·.oneCell') = true := by simp [Value.oneCell']
set_option maxHeartbeats 1000000 in
set_option maxRecDepth 100000 in
theorem encN_any (t8 t3 : TypeId) (g8 g3 g : Nat) (l : List UInt8) (x : NodeD) (v : Int) (w : World) (h8 : Blk w g8 t8 #[.pointer (some ⟨g, 0, none⟩)]) (h3 : Blk w g3 t3 #[.int .i64 v]) (h : Wr w g l) (hj : okNd v x) (hl : l.length ≤ 70368744177000) (hT : ∀ w', Below g w w' → Tabs w') :
    Calls Tryz.prog 20 #[.agg #[Value.string x.name, Value.int .i64 x.room, Value.string x.zone], .pointer (some ⟨g8, 0, none⟩), .pointer (some ⟨g3, 0, none⟩)] w fun e w' => e = .returned (.tuple #[]) ∧ Wr w' g (l ++ encN v x) ∧ Below g w w' ∧ WKeep g w w' := by
  have bX := Blk.new w 54 #[Value.string x.name, Value.int .i64 x.room, Value.string x.zone]
  have hglt := h.lt
  have B0 : Below g w (w.alloc (.cells #[Value.string x.name, Value.int .i64 x.room, Value.string x.zone] 54)) := (Below.refl _ _).alloc (by omega) _
  have K0 : WKeep g w (w.alloc (.cells #[Value.string x.name, Value.int .i64 x.room, Value.string x.zone] 54)) := WKeep.of g (Keep.alloc _ _ _)
  have c8 : (w.alloc (.cells #[Value.string x.name, Value.int .i64 x.room, Value.string x.zone] 54)).cell? ⟨g8, 0, none⟩ = some (.pointer (some ⟨g, 0, none⟩)) := (h8.alloc _).cell 0
  have c3 : (w.alloc (.cells #[Value.string x.name, Value.int .i64 x.room, Value.string x.zone] 54)).cell? ⟨g3, 0, none⟩ = some (.int .i64 v) := (h3.alloc _).cell 0
  have HC := Lib.hid (wNode_any g l x v (w.alloc (.cells #[Value.string x.name, Value.int .i64 x.room, Value.string x.zone] 54)) (h.below ((Below.refl _ _).alloc (Nat.le_refl _) _)) hj hl (fun w' hb => hT _ (B0.trans hb)))
  clear hT h
  go_enter Tryz.func20, Tryz.ntmps20
  go_wp2_with (refine wpList_load_blk rfl _ _ rfl w.heap.size rfl _ #[Value.string x.name, Value.int .i64 x.room, Value.string x.zone] bX _ Tryz.underlying54 rfl node_size ?_)
  refine HC.out.mono ?_
  rintro e w1 ⟨rfl, h1, B1, K1⟩
  go_wp2_with fail
  go_end0
  exact ⟨rfl, h1, B0.trans B1, K0.trans K1⟩
set_option maxHeartbeats 4000000 in
set_option maxRecDepth 100000 in
theorem putN_any (t8 t3 : TypeId) (g8 g3 : Nat) (v : Int) (g : Nat) (l : List UInt8) (p : Option Addr) (c : Nat) (rows : List NodeD) (w : World) (h8 : Blk w g8 t8 #[.pointer (some ⟨g, 0, none⟩)]) (h3 : Blk w g3 t3 #[.int .i64 v]) (n8 : t8 ≠ 5 ∧ g8 ≠ g) (n3 : t3 ≠ 5 ∧ g3 ≠ g) (h : Wr w g l) (hel : Elts w g 3 p (rows.map rowN)) (hok : ∀ x ∈ rows, okNd v x) (hn : rows.length ≤ 40) (hl : l.length ≤ 70368744170000) (hT : ∀ w', Below g w w' → Tabs w') :
    Calls Tryz.prog 19 #[.pointer (some ⟨g, 0, none⟩), .slice p rows.length c, .func (.func 20) #[] #[.pointer (some ⟨g8, 0, none⟩), .pointer (some ⟨g3, 0, none⟩)]] w fun e w' => e = .returned (.tuple #[]) ∧ Wr w' g (l ++ rowsB (encN v) rows) ∧ Below g w w' ∧ WKeep g w w' := by
  have HT := Lib.hid hT
  have HO := Lib.hid hok
  clear hT hok
  go_enter Tryz.func19, Tryz.ntmps19
  go_wp2_with fail
  refine (wNumber_keep g l (rows.length : Int) w h (by omega) (by omega)).mono ?_
  rintro e w1 ⟨rfl, h1, B1, K1⟩
  have hp10 : (putN ((rows.length : Int)).toNat).length ≤ 10 := putN_len10 _ (by omega)
  go_wp2_with fail
  go_loopw [14] (fun i wr => ∃ (k : Nat) (cur : List UInt8), k ≤ rows.length ∧ i = .int .i64 k ∧ Wr wr g cur ∧ Below g w wr ∧ WKeep g w wr ∧ Hid (l ++ rowsB (encN v) rows = cur ++ (rows.drop k).flatMap (encN v)) ∧ cur.length ≤ l.length + 10 + 62 * k) (fun i _ => rows.length - (intOf i).toNat)
  case atStart => exact ⟨0, _, Nat.zero_le _, rfl, h1, B1, K1, (show _ = _ by unfold rowsB; simp), by rw [List.length_append]; omega⟩
  case round =>
    obtain ⟨k, cur, hk, rfl, hW, hB, hK, HH, hlen⟩ := hrel
    by_cases hlt : k < rows.length
    · have hx : rows[k]? = some rows[k] := List.getElem?_eq_getElem hlt
      have hdr := dropAtW rows k _ hx
      have hxo := HO.out rows[k] (List.getElem_mem hlt)
      generalize rows[k] = x at *
      obtain ⟨a, ha, hab, _, hat⟩ := (hel.below hB).at_ (k := k) (r := rowN x) (by rw [List.getElem?_map, hx]; rfl)
      subst ha
      have hxl := encN_len hxo
      have hW2 : Wr (wr.alloc (.cells #[Value.string x.name, Value.int .i64 x.room, Value.string x.zone] 54)) g cur := hW.below ((Below.refl _ _).alloc (Nat.le_refl _) _)
      have hB2 : Below g w (wr.alloc (.cells #[Value.string x.name, Value.int .i64 x.room, Value.string x.zone] 54)) := hB.alloc (by have := hW.lt; omega) _
      have hK2 : WKeep g w (wr.alloc (.cells #[Value.string x.name, Value.int .i64 x.room, Value.string x.zone] 54)) := hK.trans (WKeep.of g (Keep.alloc _ _ _))
      have bX := Blk.new wr 54 #[Value.string x.name, Value.int .i64 x.room, Value.string x.zone]
      have HC := Lib.hid (encN_any t8 t3 g8 g3 g cur x v _ (hK2 _ _ _ n8.1 n8.2 h8) (hK2 _ _ _ n3.1 n3.2 h3) hW2 hxo (by omega) (fun w' hb => HT.out _ (hB2.trans hb)))
      have HH1 := HH.out
      rw [hdr, List.flatMap_cons, ← List.append_assoc] at HH1
      have HH2 := Lib.hid HH1
      clear HH HH1 hdr hx hW hW2
      go_wp2_with (first
        | (refine wpList_load_at rfl _ _ rfl (a.add (k * 3)) rfl [Value.string x.name, Value.int .i64 x.room, Value.string x.zone] _ hat Tryz.underlying54 rfl node_size ?_)
        | (refine wpList_store_new rfl _ _ _ rfl rfl _ _ #[Value.string x.name, Value.int .i64 x.room, Value.string x.zone] rfl node_size rfl (one_rowNx _) ?_)
        | (refine wpList_load_blk rfl _ _ rfl wr.heap.size rfl _ #[Value.string x.name, Value.int .i64 x.room, Value.string x.zone] bX _ Tryz.underlying54 rfl node_size ?_))
      refine HC.out.mono ?_
      rintro e w3 ⟨rfl, h3, B3, K3⟩
      go_wp2_with fail
      go_roundw
      case rel => exact ⟨k + 1, _, by omega, by go_num, h3, hB2.trans B3, hK2.trans K3, HH2.out, by rw [List.length_append]; omega⟩
      case measure => simp [intOf]; omega
    · obtain rfl : k = rows.length := by omega
      have HH1 := HH.out
      rw [List.drop_length, List.flatMap_nil, List.append_nil] at HH1
      have HH2 := Lib.hid HH1
      clear HH HH1
      go_wp2_with fail
      go_end0
      exact ⟨rfl, HH2.out ▸ hW, hB, hK⟩
end Go.Proofs.YtdicoepjkngikaaGreatDoor

/-
  Contracts of wire.Put: leases.
-/
set_option linter.unusedVariables false
set_option linter.unusedSimpArgs false
namespace Go.Proofs.YtdicoepjkngikaaGreatDoor
open Go.RowKit
theorem encJ_len {v : Int} {j : JobD} (h : okJb v j) : (encJ v j).length ≤ 82 := by
  have h1 := textB_len h.1
  have h2 : (putN (zigI j.prio).toNat).length ≤ 10 := putN_len10 _ (by have := h.2.1; omega)
  have h3 : (putN j.need.toNat).length ≤ 10 := putN_len10 _ (by have := h.2.2.1.2; omega)
  have h4 : (if decide (1 < v) = true then putN j.tries.toNat else []).length ≤ 10 := by
    have h9 := h.2.2.2.1
    split
    · rename_i hv; rw [if_pos hv] at h9; exact putN_len10 _ (by have := h9.2; omega)
    · simp
  have h5 : (if decide (2 < v) = true then textB j.tag.data.toList else []).length ≤ 26 := by
    have h9 := h.2.2.2.2
    split
    · rename_i hv; rw [if_pos hv] at h9; exact textB_len h9
    · simp
  unfold encJ
  rw [List.length_append, List.length_append, List.length_append, List.length_append]; omega
theorem one_rowJx (x : JobD) : (#[Value.string x.name, Value.int .i64 x.prio, Value.int .i64 x.need, Value.int .i64 x.tries, Value.string x.tag] : Array Value).all (·.oneCell') = true := by simp [Value.oneCell']
set_option maxHeartbeats 1000000 in
set_option maxRecDepth 100000 in
theorem encJ_any (t8 t3 : TypeId) (g8 g3 g : Nat) (l : List UInt8) (x : JobD) (v : Int) (w : World) (h8 : Blk w g8 t8 #[.pointer (some ⟨g, 0, none⟩)]) (h3 : Blk w g3 t3 #[.int .i64 v]) (h : Wr w g l) (hj : okJb v x) (hl : l.length ≤ 70368744177000) (hT : ∀ w', Below g w w' → Tabs w') :
    Calls Tryz.prog 17 #[.agg #[Value.string x.name, Value.int .i64 x.prio, Value.int .i64 x.need, Value.int .i64 x.tries, Value.string x.tag], .pointer (some ⟨g8, 0, none⟩), .pointer (some ⟨g3, 0, none⟩)] w fun e w' => e = .returned (.tuple #[]) ∧ Wr w' g (l ++ encJ v x) ∧ Below g w w' ∧ WKeep g w w' := by
  have bX := Blk.new w 49 #[Value.string x.name, Value.int .i64 x.prio, Value.int .i64 x.need, Value.int .i64 x.tries, Value.string x.tag]
  have hglt := h.lt
  have B0 : Below g w (w.alloc (.cells #[Value.string x.name, Value.int .i64 x.prio, Value.int .i64 x.need, Value.int .i64 x.tries, Value.string x.tag] 49)) := (Below.refl _ _).alloc (by omega) _
  have K0 : WKeep g w (w.alloc (.cells #[Value.string x.name, Value.int .i64 x.prio, Value.int .i64 x.need, Value.int .i64 x.tries, Value.string x.tag] 49)) := WKeep.of g (Keep.alloc _ _ _)
  have c8 : (w.alloc (.cells #[Value.string x.name, Value.int .i64 x.prio, Value.int .i64 x.need, Value.int .i64 x.tries, Value.string x.tag] 49)).cell? ⟨g8, 0, none⟩ = some (.pointer (some ⟨g, 0, none⟩)) := (h8.alloc _).cell 0
  have c3 : (w.alloc (.cells #[Value.string x.name, Value.int .i64 x.prio, Value.int .i64 x.need, Value.int .i64 x.tries, Value.string x.tag] 49)).cell? ⟨g3, 0, none⟩ = some (.int .i64 v) := (h3.alloc _).cell 0
  have HC := Lib.hid (wJob_any g l x v (w.alloc (.cells #[Value.string x.name, Value.int .i64 x.prio, Value.int .i64 x.need, Value.int .i64 x.tries, Value.string x.tag] 49)) (h.below ((Below.refl _ _).alloc (Nat.le_refl _) _)) hj hl (fun w' hb => hT _ (B0.trans hb)))
  clear hT h
  go_enter Tryz.func17, Tryz.ntmps17
  go_wp2_with (refine wpList_load_blk rfl _ _ rfl w.heap.size rfl _ #[Value.string x.name, Value.int .i64 x.prio, Value.int .i64 x.need, Value.int .i64 x.tries, Value.string x.tag] bX _ Tryz.underlying49 rfl job_size ?_)
  refine HC.out.mono ?_
  rintro e w1 ⟨rfl, h1, B1, K1⟩
  go_wp2_with fail
  go_end0
  exact ⟨rfl, h1, B0.trans B1, K0.trans K1⟩
set_option maxHeartbeats 4000000 in
set_option maxRecDepth 100000 in
theorem putJ_any (t8 t3 : TypeId) (g8 g3 : Nat) (v : Int) (g : Nat) (l : List UInt8) (p : Option Addr) (c : Nat) (rows : List JobD) (w : World) (h8 : Blk w g8 t8 #[.pointer (some ⟨g, 0, none⟩)]) (h3 : Blk w g3 t3 #[.int .i64 v]) (n8 : t8 ≠ 5 ∧ g8 ≠ g) (n3 : t3 ≠ 5 ∧ g3 ≠ g) (h : Wr w g l) (hel : Elts w g 5 p (rows.map rowJ)) (hok : ∀ x ∈ rows, okJb v x) (hn : rows.length ≤ 40) (hl : l.length ≤ 70368744170000) (hT : ∀ w', Below g w w' → Tabs w') :
    Calls Tryz.prog 16 #[.pointer (some ⟨g, 0, none⟩), .slice p rows.length c, .func (.func 17) #[] #[.pointer (some ⟨g8, 0, none⟩), .pointer (some ⟨g3, 0, none⟩)]] w fun e w' => e = .returned (.tuple #[]) ∧ Wr w' g (l ++ rowsB (encJ v) rows) ∧ Below g w w' ∧ WKeep g w w' := by
  have HT := Lib.hid hT
  have HO := Lib.hid hok
  clear hT hok
  go_enter Tryz.func16, Tryz.ntmps16
  go_wp2_with fail
  refine (wNumber_keep g l (rows.length : Int) w h (by omega) (by omega)).mono ?_
  rintro e w1 ⟨rfl, h1, B1, K1⟩
  have hp10 : (putN ((rows.length : Int)).toNat).length ≤ 10 := putN_len10 _ (by omega)
  go_wp2_with fail
  go_loopw [14] (fun i wr => ∃ (k : Nat) (cur : List UInt8), k ≤ rows.length ∧ i = .int .i64 k ∧ Wr wr g cur ∧ Below g w wr ∧ WKeep g w wr ∧ Hid (l ++ rowsB (encJ v) rows = cur ++ (rows.drop k).flatMap (encJ v)) ∧ cur.length ≤ l.length + 10 + 82 * k) (fun i _ => rows.length - (intOf i).toNat)
  case atStart => exact ⟨0, _, Nat.zero_le _, rfl, h1, B1, K1, (show _ = _ by unfold rowsB; simp), by rw [List.length_append]; omega⟩
  case round =>
    obtain ⟨k, cur, hk, rfl, hW, hB, hK, HH, hlen⟩ := hrel
    by_cases hlt : k < rows.length
    · have hx : rows[k]? = some rows[k] := List.getElem?_eq_getElem hlt
      have hdr := dropAtW rows k _ hx
      have hxo := HO.out rows[k] (List.getElem_mem hlt)
      generalize rows[k] = x at *
      obtain ⟨a, ha, hab, _, hat⟩ := (hel.below hB).at_ (k := k) (r := rowJ x) (by rw [List.getElem?_map, hx]; rfl)
      subst ha
      have hxl := encJ_len hxo
      have hW2 : Wr (wr.alloc (.cells #[Value.string x.name, Value.int .i64 x.prio, Value.int .i64 x.need, Value.int .i64 x.tries, Value.string x.tag] 49)) g cur := hW.below ((Below.refl _ _).alloc (Nat.le_refl _) _)
      have hB2 : Below g w (wr.alloc (.cells #[Value.string x.name, Value.int .i64 x.prio, Value.int .i64 x.need, Value.int .i64 x.tries, Value.string x.tag] 49)) := hB.alloc (by have := hW.lt; omega) _
      have hK2 : WKeep g w (wr.alloc (.cells #[Value.string x.name, Value.int .i64 x.prio, Value.int .i64 x.need, Value.int .i64 x.tries, Value.string x.tag] 49)) := hK.trans (WKeep.of g (Keep.alloc _ _ _))
      have bX := Blk.new wr 49 #[Value.string x.name, Value.int .i64 x.prio, Value.int .i64 x.need, Value.int .i64 x.tries, Value.string x.tag]
      have HC := Lib.hid (encJ_any t8 t3 g8 g3 g cur x v _ (hK2 _ _ _ n8.1 n8.2 h8) (hK2 _ _ _ n3.1 n3.2 h3) hW2 hxo (by omega) (fun w' hb => HT.out _ (hB2.trans hb)))
      have HH1 := HH.out
      rw [hdr, List.flatMap_cons, ← List.append_assoc] at HH1
      have HH2 := Lib.hid HH1
      clear HH HH1 hdr hx hW hW2
      go_wp2_with (first
        | (refine wpList_load_at rfl _ _ rfl (a.add (k * 5)) rfl [Value.string x.name, Value.int .i64 x.prio, Value.int .i64 x.need, Value.int .i64 x.tries, Value.string x.tag] _ hat Tryz.underlying49 rfl job_size ?_)
        | (refine wpList_store_new rfl _ _ _ rfl rfl _ _ #[Value.string x.name, Value.int .i64 x.prio, Value.int .i64 x.need, Value.int .i64 x.tries, Value.string x.tag] rfl job_size rfl (one_rowJx _) ?_)
        | (refine wpList_load_blk rfl _ _ rfl wr.heap.size rfl _ #[Value.string x.name, Value.int .i64 x.prio, Value.int .i64 x.need, Value.int .i64 x.tries, Value.string x.tag] bX _ Tryz.underlying49 rfl job_size ?_))
      refine HC.out.mono ?_
      rintro e w3 ⟨rfl, h3, B3, K3⟩
      go_wp2_with fail
      go_roundw
      case rel => exact ⟨k + 1, _, by omega, by go_num, h3, hB2.trans B3, hK2.trans K3, HH2.out, by rw [List.length_append]; omega⟩
      case measure => simp [intOf]; omega
    · obtain rfl : k = rows.length := by omega
      have HH1 := HH.out
      rw [List.drop_length, List.flatMap_nil, List.append_nil] at HH1
      have HH2 := Lib.hid HH1
      clear HH HH1
      go_wp2_with fail
      go_end0
      exact ⟨rfl, HH2.out ▸ hW, hB, hK⟩
end Go.Proofs.YtdicoepjkngikaaGreatDoor
