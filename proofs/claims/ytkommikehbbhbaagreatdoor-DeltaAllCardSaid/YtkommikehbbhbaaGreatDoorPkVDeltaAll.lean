/-
  Several texts in one: VDeltaAll.
-/
import Derived.Test.YtkommikehbbhbaaGreatDoorPkBase
import Derived.Test.YtkommikehbbhbaaGreatDoorPkDelLaw
import Derived.Test.YtkommikehbbhbaaGreatDoorPkGrB2
/-
  The walk of the law DeltaAll.
-/
set_option linter.unusedVariables false
set_option linter.unusedSimpArgs false
namespace Go.Proofs.YtkommikehbbhbaaGreatDoor.deltaAll
open Go.ChangeShapes Go.WideShapes Go.ChangeAt Go.RowKit Go.Joins
open Go.ChangeMaps (open_string)
def gone0 (s : St) : St := ⟨s.rev + 1, [], [], []⟩
theorem goneOf_nil {α : Type} (key : α → ByteArray) (a : List α) : goneOf key a ([] : List α) = a.map key := by
  unfold goneOf
  rw [List.filter_eq_self.2]
  intro x hx
  rfl
theorem betw_gone (s : St) : betw s (gone0 s) = ⟨s.rev, s.rev + 1, [], [], [], s.jobs.map JobD.name, s.nodes.map NodeD.name, s.leases.map LeaseD.job⟩ := by
  unfold betw gone0
  simp only [goneOf_nil, setOf_nil]
theorem gone0_ok {s : St} (h : checkE s = 0) (hr : s.rev ≠ 1099511627776) : checkE s = 0 ∧ checkE (gone0 s) = 0 ∧ s.rev < (gone0 s).rev := by
  have F := (fine_iff s).1 h
  have h1 := F.rev
  refine ⟨h, (fine_iff _).2 ⟨⟨by show 0 ≤ s.rev + 1; omega, by show s.rev + 1 ≤ 1099511627776; omega⟩, by simp [gone0], by simp [gone0], by simp [gone0], by simp [gone0], .nil, by simp [gone0], .nil, by simp [gone0], .nil, by simp [gone0]⟩, by show s.rev < s.rev + 1; omega⟩
theorem rows_key {α : Type} (key : α → ByteArray) (l : List α) : (l.map key).map rowS = l.map fun x => rowS (key x) := by rw [List.map_map]; rfl
set_option maxHeartbeats 8000000 in
set_option maxRecDepth 100000 in
theorem walk (s0 : St) (pj0 pn0 pl0 : Option Addr) (cj0 cn0 cl0 : Nat) (w : World) (hm0 : StM w w.heap.size pj0 pn0 pl0 s0) (hk0 : StOk s0) (hT : Tabs w) :
    Calls Tryz.prog 6 #[.agg #[Value.int .i64 s0.rev, Value.slice pj0 s0.jobs.length cj0, Value.slice pn0 s0.nodes.length cn0, Value.slice pl0 s0.leases.length cl0]] w fun e w' => e = .returned (.bool true) ∧ Below w.heap.size w w' := by
  have bb0 := Blk.new w 26 #[Value.int .i64 s0.rev, Value.slice pj0 s0.jobs.length cj0, Value.slice pn0 s0.nodes.length cn0, Value.slice pl0 s0.leases.length cl0]
  have cc : Below w.heap.size w (w.alloc (.cells #[Value.int .i64 s0.rev, Value.slice pj0 s0.jobs.length cj0, Value.slice pn0 s0.nodes.length cn0, Value.slice pl0 s0.leases.length cl0] 26)) := ((Below.refl _ _).alloc (by simp) (.cells #[Value.int .i64 s0.rev, Value.slice pj0 s0.jobs.length cj0, Value.slice pn0 s0.nodes.length cn0, Value.slice pl0 s0.leases.length cl0] 26))
  have HM0 := Lib.hid hm0
  have HZ0 := Lib.hid hk0.sz
  have HT := Lib.hid hT
  have hzd := zero_delta_lit
  have hzs := zero_state_lit
  have z0 : (((0 : Nat) : Int) != 0) = false := rfl
  have z1 : (((0 : Nat) : Int) == 0) = true := rfl
  clear hT hm0 hk0
  have hck := Lib.hid (fun (W : World) (hW : Below w.heap.size w W) => stCheck_any s0 pj0 pn0 pl0 cj0 cn0 cl0 W ((HM0.out.below hW).more hW.size) HZ0.out (HT.out.below hW))
  by_cases hE : checkE s0 = 0
  · have hck2 := hck.out
    rw [hE] at hck2
    have HC := Lib.hid hck2
    clear hck hck2
    by_cases hr : s0.rev = 1099511627776
    · have hq : (s0.rev == (1099511627776 : Int)) = true := by rw [hr]; rfl
      clear hE hr
      go_enter Tryz.func6, Tryz.ntmps6
      go_wp2_with fail
      generalize w.alloc _ = W0 at *
      refine (differed_any _ (HT.out.below cc)).mono ?_
      rintro e w1 ⟨rfl, hb2⟩
      have b3 := bb0.below hb2 bb0.lt
      have c4 := cc.trans (hb2.mono cc.size)
      clear bb0 cc hb2
      go_wp2_with (first | (refine wpList_load_blk_w (by rfl) _ _ rfl (w.heap.size) rfl _ #[Value.int .i64 s0.rev, Value.slice pj0 s0.jobs.length cj0, Value.slice pn0 s0.nodes.length cn0, Value.slice pl0 s0.leases.length cl0] b3 _ Tryz.underlying26 rfl state_size ?_))
      refine (HC.out _ c4).mono ?_
      rintro e w5 ⟨rfl, hb6⟩
      have b7 := b3.below hb6 b3.lt
      have c8 := c4.trans (hb6.mono c4.size)
      clear b3 c4 hb6
      have y0 : w5.cell? ⟨w.heap.size, 0, none⟩ = some (.int .i64 s0.rev) := b7.cell 0
      go_wp2_with (first | (refine wpList_load_blk_w (by rfl) _ _ rfl (w.heap.size) rfl _ #[Value.int .i64 s0.rev, Value.slice pj0 s0.jobs.length cj0, Value.slice pn0 s0.nodes.length cn0, Value.slice pl0 s0.leases.length cl0] b7 _ Tryz.underlying26 rfl state_size ?_))
      go_ret
      exact ⟨rfl, c8⟩
    · have hq : (s0.rev == (1099511627776 : Int)) = false := by rw [beq_eq_false_iff_ne]; exact hr
      have F := (fine_iff s0).1 hE
      have hrv := F.rev
      have hlj := F.nj
      have hln := F.nn
      have hll := F.nl
      have hwr : IntKind.i64.wrap (s0.rev + 1) = s0.rev + 1 := IntWalk.i64_in _ (by omega)
      obtain ⟨si, hsi, sz0, sz1, sz2⟩ := info_parts string_info
      have HOK := Lib.hid (gone0_ok hE hr)
      clear hE hr F
      go_enter Tryz.func6, Tryz.ntmps6
      go_wp2_with fail
      generalize w.alloc _ = W0 at *
      refine (differed_any _ (HT.out.below cc)).mono ?_
      rintro e w1 ⟨rfl, hb2⟩
      have b3 := bb0.below hb2 bb0.lt
      have c4 := cc.trans (hb2.mono cc.size)
      clear bb0 cc hb2
      go_wp2_with (first | (refine wpList_load_blk_w (by rfl) _ _ rfl (w.heap.size) rfl _ #[Value.int .i64 s0.rev, Value.slice pj0 s0.jobs.length cj0, Value.slice pn0 s0.nodes.length cn0, Value.slice pl0 s0.leases.length cl0] b3 _ Tryz.underlying26 rfl state_size ?_))
      refine (HC.out _ c4).mono ?_
      rintro e w5 ⟨rfl, hb6⟩
      have b7 := b3.below hb6 b3.lt
      have c8 := c4.trans (hb6.mono c4.size)
      clear b3 c4 hb6
      have y0 : w5.cell? ⟨w.heap.size, 0, none⟩ = some (.int .i64 s0.rev) := b7.cell 0
      have hgs : w.heap.size < w5.heap.size := b7.lt
      have hb9 : Below w5.heap.size w5 (w5.alloc (.cells #[Value.int .i64 s0.rev, Value.int .i64 (s0.rev + 1), Value.slice none 0 0, Value.slice none 0 0, Value.slice none 0 0, Value.slice none 0 0, Value.slice none 0 0, Value.slice none 0 0] 30)) := (Below.refl _ _).alloc (Nat.le_refl _) _
      have b10 := Blk.new w5 30 #[Value.int .i64 s0.rev, Value.int .i64 (s0.rev + 1), Value.slice none 0 0, Value.slice none 0 0, Value.slice none 0 0, Value.slice none 0 0, Value.slice none 0 0, Value.slice none 0 0]
      have b11 := b7.below hb9 b7.lt
      have c12 := c8.trans (hb9.mono c8.size)
      clear b7 c8 hb9
      go_upto_region 6 with (first | (refine wpList_store_new rfl _ _ _ rfl rfl 30 _ #[Value.int .i64 s0.rev, Value.int .i64 (s0.rev + 1), Value.slice none 0 0, Value.slice none 0 0, Value.slice none 0 0, Value.slice none 0 0, Value.slice none 0 0, Value.slice none 0 0] rfl delta_size rfl (one_d8 _ _ _ _ _ _ _ _ _ _ _ _ _ _ _ _ _ _ _ _) ?_) | (first | (refine wpList_load_blk_w (by rfl) _ _ rfl (w.heap.size) rfl _ #[Value.int .i64 s0.rev, Value.slice pj0 s0.jobs.length cj0, Value.slice pn0 s0.nodes.length cn0, Value.slice pl0 s0.leases.length cl0] b11 _ Tryz.underlying26 rfl state_size ?_) | (refine wpList_load_blk_w (by rfl) _ _ rfl (w5.heap.size) rfl _ #[Value.int .i64 s0.rev, Value.int .i64 (s0.rev + 1), Value.slice none 0 0, Value.slice none 0 0, Value.slice none 0 0, Value.slice none 0 0, Value.slice none 0 0, Value.slice none 0 0] b10 _ Tryz.underlying30 rfl delta_size ?_)))
      clear y0
      generalize w5.alloc _ = wm at *
      generalize w5.heap.size = gd at *
      have y0 : wm.cell? ⟨w.heap.size, 1, none⟩ = some (.slice pj0 s0.jobs.length cj0) := b11.cell 1
      have hgd : gd < wm.heap.size := b10.lt
      go_wp2_with fail
      clear y0
      go_loopw [33] (fun i wr => ∃ (k : Nat) (p : Option Addr) (c : Nat), k ≤ s0.jobs.length ∧ i = .int .i64 k ∧ GrB wm gd wr ∧ Blk wr gd 30 #[Value.int .i64 s0.rev, Value.int .i64 (s0.rev + 1), Value.slice none 0 0, Value.slice none 0 0, Value.slice none 0 0, Value.slice p k c, Value.slice none 0 0, Value.slice none 0 0] ∧ OwnR wr wm.heap.size 9 1 p c ((s0.jobs.take k).map fun x => rowS x.name)) (fun i _ => s0.jobs.length - (intOf i).toNat)
      case atStart => exact ⟨0, none, 0, Nat.zero_le _, rfl, GrB.rfl_ _ _, b10, ⟨fun r hr => by simp at hr, World.ownsRow_nil _ _ _ _⟩⟩
      case round =>
        obtain ⟨k, p, c, hk, rfl, hG, bd, hO⟩ := hrel
        by_cases hlt : k < s0.jobs.length
        · have hx : s0.jobs[k]? = some s0.jobs[k] := List.getElem?_eq_getElem hlt
          have hsn : (s0.jobs.take (k + 1)).map (fun x => rowS x.name) = (s0.jobs.take k).map (fun x => rowS x.name) ++ [rowS s0.jobs[k].name] := by rw [List.take_add_one, hx, List.map_append]; rfl
          generalize s0.jobs[k] = x at *
          have cw := GrB.low c12 hG (Nat.le_of_lt hgs)
          obtain ⟨a, rfl, hab, _, hat⟩ := (HM0.out.j.below cw).at_ (k := k) (r := rowJ x) (by rw [List.getElem?_map, hx]; rfl)
          have hln2 : (s0.jobs.take k).length = k := by rw [List.length_take]; omega
          have bx := (Blk.new wr 44 #[Value.string x.name, Value.int .i64 x.prio, Value.int .i64 x.need, Value.int .i64 x.tries, Value.string x.tag])
          have hG5 := hG.more ((Below.refl _ _).alloc (Nat.le_refl _) (.cells #[Value.string x.name, Value.int .i64 x.prio, Value.int .i64 x.need, Value.int .i64 x.tries, Value.string x.tag] 44))
          have bd5 := bd.alloc (.cells #[Value.string x.name, Value.int .i64 x.prio, Value.int .i64 x.need, Value.int .i64 x.tries, Value.string x.tag] 44)
          have hO5 := hO.below ((Below.refl _ _).alloc (Nat.le_refl _) (.cells #[Value.string x.name, Value.int .i64 x.prio, Value.int .i64 x.need, Value.int .i64 x.tries, Value.string x.tag] 44))
          have hsw : wm.heap.size ≤ wr.heap.size := hG.size
          have HSN := Lib.hid hsn
          clear hx hsn hG bd hO cw
          go_upto_region 9 with (first | (refine wpList_load_at rfl _ _ rfl (a.add (k * 5)) rfl [Value.string x.name, Value.int .i64 x.prio, Value.int .i64 x.need, Value.int .i64 x.tries, Value.string x.tag] _ hat Tryz.underlying44 rfl job_size ?_) | (refine wpList_store_new rfl _ _ _ rfl rfl 44 _ #[Value.string x.name, Value.int .i64 x.prio, Value.int .i64 x.need, Value.int .i64 x.tries, Value.string x.tag] rfl job_size rfl rfl ?_))
          clear hat
          generalize wr.alloc _ = W5 at *
          generalize wr.heap.size = gx at *
          have y0 : W5.cell? ⟨gd, 5, none⟩ = some (.slice p k c) := bd5.cell 5
          have y1 : W5.cell? ⟨gx, 0, none⟩ = some (.string x.name) := bx.cell 0
          have hO6 := hO5.2
          rw [List.length_map, hln2] at hO6
          have hs5 : wm.heap.size ≤ W5.heap.size := hG5.size
          go_upto_region 10 with (first
            | (at_builtin; refine wpList_append_any _ rfl _ _ 28 rfl wm.heap.size 9 si _ 1 16 Tryz.underlying28 hsi sz0 sz1 sz2 rfl (by decide) _ k _ rfl (World.ownsRow.alloc hO6 _) _ (some ⟨W5.heap.size, 0, none⟩) 1 1 (rowS x.name) rfl (Blk.reads1 (Blk.new W5 9 #[Value.string x.name]) rfl) (by intro u hu; simp [rowS] at hu; subst hu; rfl) (by unfold maxLen; omega) (by omega) (by simp; omega) ?_
               intro v3 w3 hO7 hg7 _
               obtain ⟨p3, c3, rfl⟩ := own_form hO7
               have hG7 := (hG5.more ((Below.refl _ _).alloc (Nat.le_refl _) (.cells #[Value.string x.name] 9))).grown hg7 (fun j hj => (World.ownsRow.lt hO6 j hj).1)
               have bd7 : Blk w3 gd 30 #[Value.int .i64 s0.rev, Value.int .i64 (s0.rev + 1), Value.slice none 0 0, Value.slice none 0 0, Value.slice none 0 0, Value.slice p k c, Value.slice none 0 0, Value.slice none 0 0] := (hg7.block gd (Nat.lt_of_lt_of_le bd5.lt (by simp)) (fun e => by have := (World.ownsRow.lt hO6 gd e.symm).1; omega)).trans (bd5.alloc _)
               have y2 : w3.cell? ⟨gd, 5, none⟩ = some (.slice p k c) := bd7.cell 5
               have y3 : w3.frozen? ⟨gd, 5, none⟩ = false := bd7.frozen 5))
          have hG8 := hG7.cell 5 (.slice p3 (k + 1) c3)
          have bd8 : Blk (w3.setCell ⟨gd, 5, none⟩ (.slice p3 (k + 1) c3)) gd 30 #[Value.int .i64 s0.rev, Value.int .i64 (s0.rev + 1), Value.slice none 0 0, Value.slice none 0 0, Value.slice none 0 0, Value.slice p3 (k + 1) c3, Value.slice none 0 0, Value.slice none 0 0] := bd7.set_ 5 _
          have hO8 : OwnR (w3.setCell ⟨gd, 5, none⟩ (.slice p3 (k + 1) c3)) wm.heap.size 9 1 p3 c3 ((s0.jobs.take (k + 1)).map fun x => rowS x.name) := OwnR.cell_ ⟨fun r hr => by obtain ⟨x, _, rfl⟩ := List.mem_map.1 hr; rfl, by rw [HSN.out, List.length_append, List.length_map, hln2, List.flatten_append]; simpa using hO7⟩ (by show gd < _; omega) _
          clear y0 y1 y2 y3 hG7 bd7 hO7 hg7 hG5 bd5 hO5 hO6 bx
          generalize w3.setCell _ _ = w4 at *
          go_wp2_with fail
          go_roundw
          case rel => exact ⟨k + 1, p3, c3, by omega, by go_num, hG8, bd8, hO8⟩
          case measure => simp [intOf]; omega
        · obtain rfl : k = s0.jobs.length := by omega
          rw [List.take_length] at hO
          obtain ⟨wl0, hwl0⟩ : ∃ x : World, x = wr := ⟨_, rfl⟩
          obtain ⟨pq1, hp0⟩ : ∃ x : Option Addr, x = p := ⟨_, rfl⟩
          obtain ⟨cq1, hc0⟩ : ∃ x : Nat, x = c := ⟨_, rfl⟩
          subst hwl0 hp0 hc0
          have P13 := hO
          have b14 := GrB.blk hG b11 (by omega)
          have b15 := bd
          have c16 := GrB.low c12 hG (Nat.le_of_lt hgs)
          have hgd17 : gd < wl0.heap.size := Nat.lt_of_lt_of_le hgd hG.size
          clear hG bd hO hlt hk b11 b10 c12
          have y0 : wl0.cell? ⟨w.heap.size, 2, none⟩ = some (.slice pn0 s0.nodes.length cn0) := b14.cell 2
          have hgd : gd < wl0.heap.size := b15.lt
          go_wp2_with fail
          clear y0
          go_loopw [48] (fun i wr => ∃ (k : Nat) (p : Option Addr) (c : Nat), k ≤ s0.nodes.length ∧ i = .int .i64 k ∧ GrB wl0 gd wr ∧ Blk wr gd 30 #[Value.int .i64 s0.rev, Value.int .i64 (s0.rev + 1), Value.slice none 0 0, Value.slice none 0 0, Value.slice none 0 0, Value.slice pq1 s0.jobs.length cq1, Value.slice p k c, Value.slice none 0 0] ∧ OwnR wr wl0.heap.size 9 1 p c ((s0.nodes.take k).map fun x => rowS x.name)) (fun i _ => s0.nodes.length - (intOf i).toNat)
          case atStart => exact ⟨0, none, 0, Nat.zero_le _, rfl, GrB.rfl_ _ _, b15, ⟨fun r hr => by simp at hr, World.ownsRow_nil _ _ _ _⟩⟩
          case round =>
            obtain ⟨k, p, c, hk, rfl, hG, bd, hO⟩ := hrel
            by_cases hlt : k < s0.nodes.length
            · have hx : s0.nodes[k]? = some s0.nodes[k] := List.getElem?_eq_getElem hlt
              have hsn : (s0.nodes.take (k + 1)).map (fun x => rowS x.name) = (s0.nodes.take k).map (fun x => rowS x.name) ++ [rowS s0.nodes[k].name] := by rw [List.take_add_one, hx, List.map_append]; rfl
              generalize s0.nodes[k] = x at *
              have cw := GrB.low c16 hG (Nat.le_of_lt hgs)
              obtain ⟨a, rfl, hab, _, hat⟩ := (HM0.out.n.below cw).at_ (k := k) (r := rowN x) (by rw [List.getElem?_map, hx]; rfl)
              have hln2 : (s0.nodes.take k).length = k := by rw [List.length_take]; omega
              have bx := (Blk.new wr 46 #[Value.string x.name, Value.int .i64 x.room, Value.string x.zone])
              have hG5 := hG.more ((Below.refl _ _).alloc (Nat.le_refl _) (.cells #[Value.string x.name, Value.int .i64 x.room, Value.string x.zone] 46))
              have bd5 := bd.alloc (.cells #[Value.string x.name, Value.int .i64 x.room, Value.string x.zone] 46)
              have hO5 := hO.below ((Below.refl _ _).alloc (Nat.le_refl _) (.cells #[Value.string x.name, Value.int .i64 x.room, Value.string x.zone] 46))
              have hsw : wl0.heap.size ≤ wr.heap.size := hG.size
              have HSN := Lib.hid hsn
              clear hx hsn hG bd hO cw
              go_upto_region 14 with (first | (refine wpList_load_at rfl _ _ rfl (a.add (k * 3)) rfl [Value.string x.name, Value.int .i64 x.room, Value.string x.zone] _ hat Tryz.underlying46 rfl node_size ?_) | (refine wpList_store_new rfl _ _ _ rfl rfl 46 _ #[Value.string x.name, Value.int .i64 x.room, Value.string x.zone] rfl node_size rfl rfl ?_))
              clear hat
              generalize wr.alloc _ = W5 at *
              generalize wr.heap.size = gx at *
              have y0 : W5.cell? ⟨gd, 6, none⟩ = some (.slice p k c) := bd5.cell 6
              have y1 : W5.cell? ⟨gx, 0, none⟩ = some (.string x.name) := bx.cell 0
              have hO6 := hO5.2
              rw [List.length_map, hln2] at hO6
              have hs5 : wl0.heap.size ≤ W5.heap.size := hG5.size
              go_upto_region 15 with (first
                | (at_builtin; refine wpList_append_any _ rfl _ _ 28 rfl wl0.heap.size 9 si _ 1 16 Tryz.underlying28 hsi sz0 sz1 sz2 rfl (by decide) _ k _ rfl (World.ownsRow.alloc hO6 _) _ (some ⟨W5.heap.size, 0, none⟩) 1 1 (rowS x.name) rfl (Blk.reads1 (Blk.new W5 9 #[Value.string x.name]) rfl) (by intro u hu; simp [rowS] at hu; subst hu; rfl) (by unfold maxLen; omega) (by omega) (by simp; omega) ?_
                   intro v3 w3 hO7 hg7 _
                   obtain ⟨p3, c3, rfl⟩ := own_form hO7
                   have hG7 := (hG5.more ((Below.refl _ _).alloc (Nat.le_refl _) (.cells #[Value.string x.name] 9))).grown hg7 (fun j hj => (World.ownsRow.lt hO6 j hj).1)
                   have bd7 : Blk w3 gd 30 #[Value.int .i64 s0.rev, Value.int .i64 (s0.rev + 1), Value.slice none 0 0, Value.slice none 0 0, Value.slice none 0 0, Value.slice pq1 s0.jobs.length cq1, Value.slice p k c, Value.slice none 0 0] := (hg7.block gd (Nat.lt_of_lt_of_le bd5.lt (by simp)) (fun e => by have := (World.ownsRow.lt hO6 gd e.symm).1; omega)).trans (bd5.alloc _)
                   have y2 : w3.cell? ⟨gd, 6, none⟩ = some (.slice p k c) := bd7.cell 6
                   have y3 : w3.frozen? ⟨gd, 6, none⟩ = false := bd7.frozen 6))
              have hG8 := hG7.cell 6 (.slice p3 (k + 1) c3)
              have bd8 : Blk (w3.setCell ⟨gd, 6, none⟩ (.slice p3 (k + 1) c3)) gd 30 #[Value.int .i64 s0.rev, Value.int .i64 (s0.rev + 1), Value.slice none 0 0, Value.slice none 0 0, Value.slice none 0 0, Value.slice pq1 s0.jobs.length cq1, Value.slice p3 (k + 1) c3, Value.slice none 0 0] := bd7.set_ 6 _
              have hO8 : OwnR (w3.setCell ⟨gd, 6, none⟩ (.slice p3 (k + 1) c3)) wl0.heap.size 9 1 p3 c3 ((s0.nodes.take (k + 1)).map fun x => rowS x.name) := OwnR.cell_ ⟨fun r hr => by obtain ⟨x, _, rfl⟩ := List.mem_map.1 hr; rfl, by rw [HSN.out, List.length_append, List.length_map, hln2, List.flatten_append]; simpa using hO7⟩ (by show gd < _; omega) _
              clear y0 y1 y2 y3 hG7 bd7 hO7 hg7 hG5 bd5 hO5 hO6 bx
              generalize w3.setCell _ _ = w4 at *
              go_wp2_with fail
              go_roundw
              case rel => exact ⟨k + 1, p3, c3, by omega, by go_num, hG8, bd8, hO8⟩
              case measure => simp [intOf]; omega
            · obtain rfl : k = s0.nodes.length := by omega
              rw [List.take_length] at hO
              obtain ⟨wl1, hwl1⟩ : ∃ x : World, x = wr := ⟨_, rfl⟩
              obtain ⟨pq2, hp1⟩ : ∃ x : Option Addr, x = p := ⟨_, rfl⟩
              obtain ⟨cq2, hc1⟩ : ∃ x : Nat, x = c := ⟨_, rfl⟩
              subst hwl1 hp1 hc1
              have P18 := hG.own P13 (by omega)
              have P19 := hO
              have b20 := GrB.blk hG b14 (by omega)
              have b21 := bd
              have c22 := GrB.low c16 hG (Nat.le_of_lt hgs)
              have hgd23 : gd < wl1.heap.size := Nat.lt_of_lt_of_le hgd hG.size
              clear hG bd hO hlt hk b14 b15 c16
              have y0 : wl1.cell? ⟨w.heap.size, 3, none⟩ = some (.slice pl0 s0.leases.length cl0) := b20.cell 3
              have hgd : gd < wl1.heap.size := b21.lt
              go_wp2_with fail
              clear y0
              go_loopw [63] (fun i wr => ∃ (k : Nat) (p : Option Addr) (c : Nat), k ≤ s0.leases.length ∧ i = .int .i64 k ∧ GrB wl1 gd wr ∧ Blk wr gd 30 #[Value.int .i64 s0.rev, Value.int .i64 (s0.rev + 1), Value.slice none 0 0, Value.slice none 0 0, Value.slice none 0 0, Value.slice pq1 s0.jobs.length cq1, Value.slice pq2 s0.nodes.length cq2, Value.slice p k c] ∧ OwnR wr wl1.heap.size 9 1 p c ((s0.leases.take k).map fun x => rowS x.job)) (fun i _ => s0.leases.length - (intOf i).toNat)
              case atStart => exact ⟨0, none, 0, Nat.zero_le _, rfl, GrB.rfl_ _ _, b21, ⟨fun r hr => by simp at hr, World.ownsRow_nil _ _ _ _⟩⟩
              case round =>
                obtain ⟨k, p, c, hk, rfl, hG, bd, hO⟩ := hrel
                by_cases hlt : k < s0.leases.length
                · have hx : s0.leases[k]? = some s0.leases[k] := List.getElem?_eq_getElem hlt
                  have hsn : (s0.leases.take (k + 1)).map (fun x => rowS x.job) = (s0.leases.take k).map (fun x => rowS x.job) ++ [rowS s0.leases[k].job] := by rw [List.take_add_one, hx, List.map_append]; rfl
                  generalize s0.leases[k] = x at *
                  have cw := GrB.low c22 hG (Nat.le_of_lt hgs)
                  obtain ⟨a, rfl, hab, _, hat⟩ := (HM0.out.l.below cw).at_ (k := k) (r := rowL x) (by rw [List.getElem?_map, hx]; rfl)
                  have hln2 : (s0.leases.take k).length = k := by rw [List.length_take]; omega
                  have bx := (Blk.new wr 48 #[Value.string x.job, Value.string x.node, Value.int .i64 x.till])
                  have hG5 := hG.more ((Below.refl _ _).alloc (Nat.le_refl _) (.cells #[Value.string x.job, Value.string x.node, Value.int .i64 x.till] 48))
                  have bd5 := bd.alloc (.cells #[Value.string x.job, Value.string x.node, Value.int .i64 x.till] 48)
                  have hO5 := hO.below ((Below.refl _ _).alloc (Nat.le_refl _) (.cells #[Value.string x.job, Value.string x.node, Value.int .i64 x.till] 48))
                  have hsw : wl1.heap.size ≤ wr.heap.size := hG.size
                  have HSN := Lib.hid hsn
                  clear hx hsn hG bd hO cw
                  go_upto_region 19 with (first | (refine wpList_load_at rfl _ _ rfl (a.add (k * 3)) rfl [Value.string x.job, Value.string x.node, Value.int .i64 x.till] _ hat Tryz.underlying48 rfl lease_size ?_) | (refine wpList_store_new rfl _ _ _ rfl rfl 48 _ #[Value.string x.job, Value.string x.node, Value.int .i64 x.till] rfl lease_size rfl rfl ?_))
                  clear hat
                  generalize wr.alloc _ = W5 at *
                  generalize wr.heap.size = gx at *
                  have y0 : W5.cell? ⟨gd, 7, none⟩ = some (.slice p k c) := bd5.cell 7
                  have y1 : W5.cell? ⟨gx, 0, none⟩ = some (.string x.job) := bx.cell 0
                  have hO6 := hO5.2
                  rw [List.length_map, hln2] at hO6
                  have hs5 : wl1.heap.size ≤ W5.heap.size := hG5.size
                  go_upto_region 20 with (first
                    | (at_builtin; refine wpList_append_any _ rfl _ _ 28 rfl wl1.heap.size 9 si _ 1 16 Tryz.underlying28 hsi sz0 sz1 sz2 rfl (by decide) _ k _ rfl (World.ownsRow.alloc hO6 _) _ (some ⟨W5.heap.size, 0, none⟩) 1 1 (rowS x.job) rfl (Blk.reads1 (Blk.new W5 9 #[Value.string x.job]) rfl) (by intro u hu; simp [rowS] at hu; subst hu; rfl) (by unfold maxLen; omega) (by omega) (by simp; omega) ?_
                       intro v3 w3 hO7 hg7 _
                       obtain ⟨p3, c3, rfl⟩ := own_form hO7
                       have hG7 := (hG5.more ((Below.refl _ _).alloc (Nat.le_refl _) (.cells #[Value.string x.job] 9))).grown hg7 (fun j hj => (World.ownsRow.lt hO6 j hj).1)
                       have bd7 : Blk w3 gd 30 #[Value.int .i64 s0.rev, Value.int .i64 (s0.rev + 1), Value.slice none 0 0, Value.slice none 0 0, Value.slice none 0 0, Value.slice pq1 s0.jobs.length cq1, Value.slice pq2 s0.nodes.length cq2, Value.slice p k c] := (hg7.block gd (Nat.lt_of_lt_of_le bd5.lt (by simp)) (fun e => by have := (World.ownsRow.lt hO6 gd e.symm).1; omega)).trans (bd5.alloc _)
                       have y2 : w3.cell? ⟨gd, 7, none⟩ = some (.slice p k c) := bd7.cell 7
                       have y3 : w3.frozen? ⟨gd, 7, none⟩ = false := bd7.frozen 7))
                  have hG8 := hG7.cell 7 (.slice p3 (k + 1) c3)
                  have bd8 : Blk (w3.setCell ⟨gd, 7, none⟩ (.slice p3 (k + 1) c3)) gd 30 #[Value.int .i64 s0.rev, Value.int .i64 (s0.rev + 1), Value.slice none 0 0, Value.slice none 0 0, Value.slice none 0 0, Value.slice pq1 s0.jobs.length cq1, Value.slice pq2 s0.nodes.length cq2, Value.slice p3 (k + 1) c3] := bd7.set_ 7 _
                  have hO8 : OwnR (w3.setCell ⟨gd, 7, none⟩ (.slice p3 (k + 1) c3)) wl1.heap.size 9 1 p3 c3 ((s0.leases.take (k + 1)).map fun x => rowS x.job) := OwnR.cell_ ⟨fun r hr => by obtain ⟨x, _, rfl⟩ := List.mem_map.1 hr; rfl, by rw [HSN.out, List.length_append, List.length_map, hln2, List.flatten_append]; simpa using hO7⟩ (by show gd < _; omega) _
                  clear y0 y1 y2 y3 hG7 bd7 hO7 hg7 hG5 bd5 hO5 hO6 bx
                  generalize w3.setCell _ _ = w4 at *
                  go_wp2_with fail
                  go_roundw
                  case rel => exact ⟨k + 1, p3, c3, by omega, by go_num, hG8, bd8, hO8⟩
                  case measure => simp [intOf]; omega
                · obtain rfl : k = s0.leases.length := by omega
                  rw [List.take_length] at hO
                  obtain ⟨wl2, hwl2⟩ : ∃ x : World, x = wr := ⟨_, rfl⟩
                  obtain ⟨pq3, hp2⟩ : ∃ x : Option Addr, x = p := ⟨_, rfl⟩
                  obtain ⟨cq3, hc2⟩ : ∃ x : Nat, x = c := ⟨_, rfl⟩
                  subst hwl2 hp2 hc2
                  have P24 := hG.own P18 (by omega)
                  have P25 := hG.own P19 (by omega)
                  have P26 := hO
                  have b27 := GrB.blk hG b20 (by omega)
                  have b28 := bd
                  have c29 := GrB.low c22 hG (Nat.le_of_lt hgs)
                  have hgd30 : gd < wl2.heap.size := Nat.lt_of_lt_of_le hgd hG.size
                  clear hG bd hO hlt hk b20 b21 c22
                  have hDM : DelM wl2 wl2.heap.size none none none pq1 pq2 pq3 (betw s0 (gone0 s0)) := by
                    rw [betw_gone]
                    exact ⟨.nil_, .nil_, .nil_, by rw [rows_key]; exact P24.elts, by rw [rows_key]; exact P25.elts, by rw [rows_key]; exact P26.elts⟩
                  have hcells : #[Value.int .i64 s0.rev, Value.int .i64 (s0.rev + 1), Value.slice none 0 0, Value.slice none 0 0, Value.slice none 0 0, Value.slice pq1 s0.jobs.length cq1, Value.slice pq2 s0.nodes.length cq2, Value.slice pq3 s0.leases.length cq3] = #[Value.int .i64 (betw s0 (gone0 s0)).frm, Value.int .i64 (betw s0 (gone0 s0)).upto, Value.slice none (betw s0 (gone0 s0)).jobs.length 0, Value.slice none (betw s0 (gone0 s0)).nodes.length 0, Value.slice none (betw s0 (gone0 s0)).leases.length 0, Value.slice pq1 (betw s0 (gone0 s0)).gj.length cq1, Value.slice pq2 (betw s0 (gone0 s0)).gn.length cq2, Value.slice pq3 (betw s0 (gone0 s0)).gl.length cq3] := by rw [betw_gone]; simp only [List.length_map, List.length_nil]
                  rw [hcells] at b28
                  clear hcells P24 P25 P26
                  go_wp2_with (first | (refine wpList_load_blk_w (by rfl) _ _ rfl (w.heap.size) rfl _ #[Value.int .i64 s0.rev, Value.slice pj0 s0.jobs.length cj0, Value.slice pn0 s0.nodes.length cn0, Value.slice pl0 s0.leases.length cl0] b27 _ Tryz.underlying26 rfl state_size ?_) | (refine wpList_load_blk_w (by rfl) _ _ rfl (gd) rfl _ #[Value.int .i64 (betw s0 (gone0 s0)).frm, Value.int .i64 (betw s0 (gone0 s0)).upto, Value.slice none (betw s0 (gone0 s0)).jobs.length 0, Value.slice none (betw s0 (gone0 s0)).nodes.length 0, Value.slice none (betw s0 (gone0 s0)).leases.length 0, Value.slice pq1 (betw s0 (gone0 s0)).gj.length cq1, Value.slice pq2 (betw s0 (gone0 s0)).gn.length cq2, Value.slice pq3 (betw s0 (gone0 s0)).gl.length cq3] b28 _ Tryz.underlying30 rfl delta_size ?_))
                  refine (apply_ok s0 (gone0 s0) pj0 pn0 pl0 cj0 cn0 cl0 _ _ _ _ _ _ _ _ _ _ _ _ _ ((HM0.out.below c29).more c29.size) hDM (HT.out.below c29) HOK.out).mono ?_
                  rintro e w32 ⟨q1, q2, q3, d1, d2, d3, rfl, m31, hb33⟩
                  have b34 := b27.below hb33 b27.lt
                  have b35 := b28.below hb33 b28.lt
                  have m36 := (hDM.below hb33).more hb33.size
                  have c37 := c29.trans (hb33.mono c29.size)
                  clear b27 b28 hDM c29 hb33
                  have hb38 : Below w32.heap.size w32 (w32.alloc (.cells #[Value.int .i64 (s0.rev + 1), Value.slice q1 0 d1, Value.slice q2 0 d2, Value.slice q3 0 d3] 26)) := (Below.refl _ _).alloc (Nat.le_refl _) _
                  have b39 := Blk.new w32 26 #[Value.int .i64 (s0.rev + 1), Value.slice q1 0 d1, Value.slice q2 0 d2, Value.slice q3 0 d3]
                  have b40 := b34.below hb38 b34.lt
                  have b41 := b35.below hb38 b35.lt
                  have m42 := (m36.below hb38).more hb38.size
                  have m43 := (m31.below hb38).more hb38.size
                  have c44 := c37.trans (hb38.mono c37.size)
                  clear b34 b35 m36 m31 c37 hb38
                  have y0 : (w32.alloc (.cells #[Value.int .i64 (s0.rev + 1), Value.slice q1 0 d1, Value.slice q2 0 d2, Value.slice q3 0 d3] 26)).cell? ⟨w.heap.size, 0, none⟩ = some (.int .i64 s0.rev) := b40.cell 0
                  go_wp2_with (first | (refine wpList_store_new rfl _ _ _ rfl rfl 26 _ #[Value.int .i64 (s0.rev + 1), Value.slice q1 0 d1, Value.slice q2 0 d2, Value.slice q3 0 d3] rfl state_size rfl (one_st4 _ _ _ _ _ _ _ _ _ _) ?_) | (first | (refine wpList_load_blk_w (by rfl) _ _ rfl (w.heap.size) rfl _ #[Value.int .i64 s0.rev, Value.slice pj0 s0.jobs.length cj0, Value.slice pn0 s0.nodes.length cn0, Value.slice pl0 s0.leases.length cl0] b40 _ Tryz.underlying26 rfl state_size ?_) | (refine wpList_load_blk_w (by rfl) _ _ rfl (gd) rfl _ #[Value.int .i64 (betw s0 (gone0 s0)).frm, Value.int .i64 (betw s0 (gone0 s0)).upto, Value.slice none (betw s0 (gone0 s0)).jobs.length 0, Value.slice none (betw s0 (gone0 s0)).nodes.length 0, Value.slice none (betw s0 (gone0 s0)).leases.length 0, Value.slice pq1 (betw s0 (gone0 s0)).gj.length cq1, Value.slice pq2 (betw s0 (gone0 s0)).gn.length cq2, Value.slice pq3 (betw s0 (gone0 s0)).gl.length cq3] b41 _ Tryz.underlying30 rfl delta_size ?_) | (refine wpList_load_blk_w (by rfl) _ _ rfl (w32.heap.size) rfl _ #[Value.int .i64 (s0.rev + 1), Value.slice q1 0 d1, Value.slice q2 0 d2, Value.slice q3 0 d3] b39 _ Tryz.underlying26 rfl state_size ?_)))
                  generalize w32.alloc _ = W45 at *
                  generalize w32.heap.size = g46 at *
                  clear y0
                  refine (diff_ok s0 (gone0 s0) pj0 pn0 pl0 none none none cj0 cn0 cl0 0 0 0 _ ((HM0.out.below c44).more c44.size) ⟨.nil_, .nil_, .nil_⟩ (HT.out.below c44) HOK.out).mono ?_
                  rintro e w48 ⟨r1, r2, r3, r4, r5, r6, e1, e2, e3, e4, e5, e6, rfl, m47, hb49⟩
                  have b50 := b40.below hb49 b40.lt
                  have b51 := b41.below hb49 b41.lt
                  have b52 := b39.below hb49 b39.lt
                  have m53 := (m42.below hb49).more hb49.size
                  have m54 := (m43.below hb49).more hb49.size
                  have c55 := c44.trans (hb49.mono c44.size)
                  clear b40 b41 b39 m42 m43 c44 hb49
                  have hb56 : Below w48.heap.size w48 (w48.alloc (.cells #[Value.int .i64 (betw s0 (gone0 s0)).frm, Value.int .i64 (betw s0 (gone0 s0)).upto, Value.slice r1 (betw s0 (gone0 s0)).jobs.length e1, Value.slice r2 (betw s0 (gone0 s0)).nodes.length e2, Value.slice r3 (betw s0 (gone0 s0)).leases.length e3, Value.slice r4 (betw s0 (gone0 s0)).gj.length e4, Value.slice r5 (betw s0 (gone0 s0)).gn.length e5, Value.slice r6 (betw s0 (gone0 s0)).gl.length e6] 30)) := (Below.refl _ _).alloc (Nat.le_refl _) _
                  have b57 := Blk.new w48 30 #[Value.int .i64 (betw s0 (gone0 s0)).frm, Value.int .i64 (betw s0 (gone0 s0)).upto, Value.slice r1 (betw s0 (gone0 s0)).jobs.length e1, Value.slice r2 (betw s0 (gone0 s0)).nodes.length e2, Value.slice r3 (betw s0 (gone0 s0)).leases.length e3, Value.slice r4 (betw s0 (gone0 s0)).gj.length e4, Value.slice r5 (betw s0 (gone0 s0)).gn.length e5, Value.slice r6 (betw s0 (gone0 s0)).gl.length e6]
                  have b58 := b50.below hb56 b50.lt
                  have b59 := b51.below hb56 b51.lt
                  have b60 := b52.below hb56 b52.lt
                  have m61 := (m53.below hb56).more hb56.size
                  have m62 := (m54.below hb56).more hb56.size
                  have m63 := (m47.below hb56).more hb56.size
                  have c64 := c55.trans (hb56.mono c55.size)
                  clear b50 b51 b52 m53 m54 m47 c55 hb56
                  have y0 : (w48.alloc (.cells #[Value.int .i64 (betw s0 (gone0 s0)).frm, Value.int .i64 (betw s0 (gone0 s0)).upto, Value.slice r1 (betw s0 (gone0 s0)).jobs.length e1, Value.slice r2 (betw s0 (gone0 s0)).nodes.length e2, Value.slice r3 (betw s0 (gone0 s0)).leases.length e3, Value.slice r4 (betw s0 (gone0 s0)).gj.length e4, Value.slice r5 (betw s0 (gone0 s0)).gn.length e5, Value.slice r6 (betw s0 (gone0 s0)).gl.length e6] 30)).cell? ⟨w.heap.size, 0, none⟩ = some (.int .i64 s0.rev) := b58.cell 0
                  go_wp2_with (first | (refine wpList_store_new rfl _ _ _ rfl rfl 30 _ #[Value.int .i64 (betw s0 (gone0 s0)).frm, Value.int .i64 (betw s0 (gone0 s0)).upto, Value.slice r1 (betw s0 (gone0 s0)).jobs.length e1, Value.slice r2 (betw s0 (gone0 s0)).nodes.length e2, Value.slice r3 (betw s0 (gone0 s0)).leases.length e3, Value.slice r4 (betw s0 (gone0 s0)).gj.length e4, Value.slice r5 (betw s0 (gone0 s0)).gn.length e5, Value.slice r6 (betw s0 (gone0 s0)).gl.length e6] rfl delta_size rfl (one_d8 _ _ _ _ _ _ _ _ _ _ _ _ _ _ _ _ _ _ _ _) ?_) | (first | (refine wpList_load_blk_w (by rfl) _ _ rfl (w.heap.size) rfl _ #[Value.int .i64 s0.rev, Value.slice pj0 s0.jobs.length cj0, Value.slice pn0 s0.nodes.length cn0, Value.slice pl0 s0.leases.length cl0] b58 _ Tryz.underlying26 rfl state_size ?_) | (refine wpList_load_blk_w (by rfl) _ _ rfl (gd) rfl _ #[Value.int .i64 (betw s0 (gone0 s0)).frm, Value.int .i64 (betw s0 (gone0 s0)).upto, Value.slice none (betw s0 (gone0 s0)).jobs.length 0, Value.slice none (betw s0 (gone0 s0)).nodes.length 0, Value.slice none (betw s0 (gone0 s0)).leases.length 0, Value.slice pq1 (betw s0 (gone0 s0)).gj.length cq1, Value.slice pq2 (betw s0 (gone0 s0)).gn.length cq2, Value.slice pq3 (betw s0 (gone0 s0)).gl.length cq3] b59 _ Tryz.underlying30 rfl delta_size ?_) | (refine wpList_load_blk_w (by rfl) _ _ rfl (g46) rfl _ #[Value.int .i64 (s0.rev + 1), Value.slice q1 0 d1, Value.slice q2 0 d2, Value.slice q3 0 d3] b60 _ Tryz.underlying26 rfl state_size ?_) | (refine wpList_load_blk_w (by rfl) _ _ rfl (w48.heap.size) rfl _ #[Value.int .i64 (betw s0 (gone0 s0)).frm, Value.int .i64 (betw s0 (gone0 s0)).upto, Value.slice r1 (betw s0 (gone0 s0)).jobs.length e1, Value.slice r2 (betw s0 (gone0 s0)).nodes.length e2, Value.slice r3 (betw s0 (gone0 s0)).leases.length e3, Value.slice r4 (betw s0 (gone0 s0)).gj.length e4, Value.slice r5 (betw s0 (gone0 s0)).gn.length e5, Value.slice r6 (betw s0 (gone0 s0)).gl.length e6] b57 _ Tryz.underlying30 rfl delta_size ?_)))
                  generalize w48.alloc _ = W65 at *
                  generalize w48.heap.size = g66 at *
                  clear y0
                  have hS := same_any (gone0 s0) (gone0 s0) q1 q2 q3 none none none d1 d2 d3 0 0 0 _ m62 ⟨.nil_, .nil_, .nil_⟩ ⟨by simp [gone0], by simp [gone0], by simp [gone0], by simp [gone0], by simp [gone0], by simp [gone0]⟩ ⟨by simp [gone0], by simp [gone0], by simp [gone0], by simp [gone0], by simp [gone0], by simp [gone0]⟩
                  rw [decide_eq_true rfl] at hS
                  refine (hS).mono ?_
                  rintro e w67 ⟨rfl, hb68⟩
                  have b69 := b58.below hb68 b58.lt
                  have b70 := b59.below hb68 b59.lt
                  have b71 := b60.below hb68 b60.lt
                  have b72 := b57.below hb68 b57.lt
                  have m73 := (m61.below hb68).more hb68.size
                  have m74 := (m62.below hb68).more hb68.size
                  have m75 := (m63.below hb68).more hb68.size
                  have c76 := c64.trans (hb68.mono c64.size)
                  clear b58 b59 b60 b57 m61 m62 m63 c64 hb68
                  go_wp2_with (first | (refine wpList_load_blk_w (by rfl) _ _ rfl (w.heap.size) rfl _ #[Value.int .i64 s0.rev, Value.slice pj0 s0.jobs.length cj0, Value.slice pn0 s0.nodes.length cn0, Value.slice pl0 s0.leases.length cl0] b69 _ Tryz.underlying26 rfl state_size ?_) | (refine wpList_load_blk_w (by rfl) _ _ rfl (gd) rfl _ #[Value.int .i64 (betw s0 (gone0 s0)).frm, Value.int .i64 (betw s0 (gone0 s0)).upto, Value.slice none (betw s0 (gone0 s0)).jobs.length 0, Value.slice none (betw s0 (gone0 s0)).nodes.length 0, Value.slice none (betw s0 (gone0 s0)).leases.length 0, Value.slice pq1 (betw s0 (gone0 s0)).gj.length cq1, Value.slice pq2 (betw s0 (gone0 s0)).gn.length cq2, Value.slice pq3 (betw s0 (gone0 s0)).gl.length cq3] b70 _ Tryz.underlying30 rfl delta_size ?_) | (refine wpList_load_blk_w (by rfl) _ _ rfl (g46) rfl _ #[Value.int .i64 (s0.rev + 1), Value.slice q1 0 d1, Value.slice q2 0 d2, Value.slice q3 0 d3] b71 _ Tryz.underlying26 rfl state_size ?_) | (refine wpList_load_blk_w (by rfl) _ _ rfl (g66) rfl _ #[Value.int .i64 (betw s0 (gone0 s0)).frm, Value.int .i64 (betw s0 (gone0 s0)).upto, Value.slice r1 (betw s0 (gone0 s0)).jobs.length e1, Value.slice r2 (betw s0 (gone0 s0)).nodes.length e2, Value.slice r3 (betw s0 (gone0 s0)).leases.length e3, Value.slice r4 (betw s0 (gone0 s0)).gj.length e4, Value.slice r5 (betw s0 (gone0 s0)).gn.length e5, Value.slice r6 (betw s0 (gone0 s0)).gl.length e6] b72 _ Tryz.underlying30 rfl delta_size ?_))
                  have hdz := (delOk_of (betw_ok HOK.out.1 HOK.out.2.1 HOK.out.2.2)).sz
                  have hQ := deltaEq_any (betw s0 (gone0 s0)) (betw s0 (gone0 s0)) none none none pq1 pq2 pq3 r1 r2 r3 r4 r5 r6 0 0 0 cq1 cq2 cq3 e1 e2 e3 e4 e5 e6 _ m73 m75 hdz hdz
                  rw [decide_eq_true rfl] at hQ
                  refine (hQ).mono ?_
                  rintro e w77 ⟨rfl, hb78⟩
                  have b79 := b69.below hb78 b69.lt
                  have b80 := b70.below hb78 b70.lt
                  have b81 := b71.below hb78 b71.lt
                  have b82 := b72.below hb78 b72.lt
                  have m83 := (m73.below hb78).more hb78.size
                  have m84 := (m74.below hb78).more hb78.size
                  have m85 := (m75.below hb78).more hb78.size
                  have c86 := c76.trans (hb78.mono c76.size)
                  clear b69 b70 b71 b72 m73 m74 m75 c76 hb78
                  go_wp2_with (first | (refine wpList_load_blk_w (by rfl) _ _ rfl (w.heap.size) rfl _ #[Value.int .i64 s0.rev, Value.slice pj0 s0.jobs.length cj0, Value.slice pn0 s0.nodes.length cn0, Value.slice pl0 s0.leases.length cl0] b79 _ Tryz.underlying26 rfl state_size ?_) | (refine wpList_load_blk_w (by rfl) _ _ rfl (gd) rfl _ #[Value.int .i64 (betw s0 (gone0 s0)).frm, Value.int .i64 (betw s0 (gone0 s0)).upto, Value.slice none (betw s0 (gone0 s0)).jobs.length 0, Value.slice none (betw s0 (gone0 s0)).nodes.length 0, Value.slice none (betw s0 (gone0 s0)).leases.length 0, Value.slice pq1 (betw s0 (gone0 s0)).gj.length cq1, Value.slice pq2 (betw s0 (gone0 s0)).gn.length cq2, Value.slice pq3 (betw s0 (gone0 s0)).gl.length cq3] b80 _ Tryz.underlying30 rfl delta_size ?_) | (refine wpList_load_blk_w (by rfl) _ _ rfl (g46) rfl _ #[Value.int .i64 (s0.rev + 1), Value.slice q1 0 d1, Value.slice q2 0 d2, Value.slice q3 0 d3] b81 _ Tryz.underlying26 rfl state_size ?_) | (refine wpList_load_blk_w (by rfl) _ _ rfl (g66) rfl _ #[Value.int .i64 (betw s0 (gone0 s0)).frm, Value.int .i64 (betw s0 (gone0 s0)).upto, Value.slice r1 (betw s0 (gone0 s0)).jobs.length e1, Value.slice r2 (betw s0 (gone0 s0)).nodes.length e2, Value.slice r3 (betw s0 (gone0 s0)).leases.length e3, Value.slice r4 (betw s0 (gone0 s0)).gj.length e4, Value.slice r5 (betw s0 (gone0 s0)).gn.length e5, Value.slice r6 (betw s0 (gone0 s0)).gl.length e6] b82 _ Tryz.underlying30 rfl delta_size ?_))
                  go_ret
                  exact ⟨rfl, c86⟩
  · have hne : ((checkE s0 : Int) != 0) = true := by rw [bne_iff_ne]; omega
    generalize checkE s0 = ce at *
    clear hE
    go_enter Tryz.func6, Tryz.ntmps6
    go_wp2_with fail
    generalize w.alloc _ = W0 at *
    refine (differed_any _ (HT.out.below cc)).mono ?_
    rintro e w1 ⟨rfl, hb2⟩
    have b3 := bb0.below hb2 bb0.lt
    have c4 := cc.trans (hb2.mono cc.size)
    clear bb0 cc hb2
    go_wp2_with (first | (refine wpList_load_blk_w (by rfl) _ _ rfl (w.heap.size) rfl _ #[Value.int .i64 s0.rev, Value.slice pj0 s0.jobs.length cj0, Value.slice pn0 s0.nodes.length cn0, Value.slice pl0 s0.leases.length cl0] b3 _ Tryz.underlying26 rfl state_size ?_))
    refine (hck.out _ c4).mono ?_
    rintro e w5 ⟨rfl, hb6⟩
    have b7 := b3.below hb6 b3.lt
    have c8 := c4.trans (hb6.mono c4.size)
    clear b3 c4 hb6
    go_wp2_with (first | (refine wpList_load_blk_w (by rfl) _ _ rfl (w.heap.size) rfl _ #[Value.int .i64 s0.rev, Value.slice pj0 s0.jobs.length cj0, Value.slice pn0 s0.nodes.length cn0, Value.slice pl0 s0.leases.length cl0] b7 _ Tryz.underlying26 rfl state_size ?_))
    go_ret
    exact ⟨rfl, c8⟩
end Go.Proofs.YtkommikehbbhbaaGreatDoor.deltaAll
