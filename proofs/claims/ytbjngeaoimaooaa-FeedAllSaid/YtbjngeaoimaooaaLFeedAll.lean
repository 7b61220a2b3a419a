/-
  The law FeedAll of package brackenkeep: for every input it answers true.
-/
import Derived.Test.YtbjngeaoimaooaaRows
import Derived.Test.YtbjngeaoimaooaaBase
import Derived.Test.YtbjngeaoimaooaaFeedA
set_option linter.unusedVariables false
set_option linter.unusedSimpArgs false
namespace Go.Proofs.Ytbjngeaoimaooaa.feedAll
open Go.ChangeShapes Go.WideShapes Go.ChangeAt Go.RowKit Go.Joins
open Go.ChangeMaps (open_string)
set_option maxHeartbeats 2000000 in
set_option maxRecDepth 100000 in
theorem walk (p : Option Addr) (c : Nat) (l : List FrI) (w : World) (hel : Elts w w.heap.size 3 p (l.map rowFI)) (hok : ∀ x ∈ l, okFI x ∧ x.pl.size ≤ 140737488351232) (hl : l.length ≤ 4398046511103) :
    Calls Try.prog 4 #[.slice p l.length c] w fun e w' => e = .returned (.bool true) ∧ Below w.heap.size w w' := by
  have HOK := Lib.hid hok
  clear hok
  go_enter Try.func4, Try.ntmps4
  go_wp2_with fail
  refine (fed_any _).mono ?_
  rintro e w1 ⟨rfl, hb1⟩
  have hs1 := hb1.size
  go_wp2_with fail
  go_loopw [3, 4, 16] (fun t v i wr => ∃ k : Nat, k ≤ l.length ∧ i = .int .i64 k ∧ t = .string (bstr (encs (goods (l.take k)))) ∧ OwnF wr w.heap.size v (goods (l.take k)) ∧ Below w.heap.size w wr) (fun _ _ i _ => l.length - (intOf i).toNat)
  case atStart => exact ⟨0, Nat.zero_le _, rfl, rfl, World.ownsRow_nil _ _ _ _, hb1⟩
  case round =>
    obtain ⟨k, hk, rfl, rfl, hown, hbr⟩ := hrel
    have hgl := goods_len (l.take k)
    rw [List.length_take] at hgl
    by_cases hlt : k < l.length
    · have hx : l[k]? = some l[k] := List.getElem?_eq_getElem hlt
      have hg := HOK.out l[k] (List.getElem_mem hlt)
      have hstep := goods_take l k _ hx
      generalize l[k] = x at *
      obtain ⟨a, rfl, hab, _, hat⟩ := (hel.below hbr).at_ (k := k) (r := rowFI x) (by rw [List.getElem?_map, hx]; rfl)
      by_cases hgood : goodF x.v x.k ∧ x.pl.size ≤ 6000
      · obtain ⟨xv, xk, xpl⟩ := x
        obtain ⟨⟨h1, h2, h3, h4⟩, h5⟩ := hgood
        simp only [] at h1 h2 h3 h4 h5
        obtain ⟨vn, rfl⟩ := Int.eq_ofNat_of_zero_le (show 0 ≤ xv by omega)
        obtain ⟨kn, rfl⟩ := Int.eq_ofNat_of_zero_le (show 0 ≤ xk by omega)
        have hv : 1 ≤ vn ∧ vn ≤ 3 := by omega
        have hk4 : 1 ≤ kn ∧ kn ≤ 4 := by omega
        have hf : frOf ⟨(vn : Int), (kn : Int), xpl⟩ = some ⟨vn, kn, xpl.data.toList⟩ := by
          unfold frOf
          rw [if_pos ⟨⟨h1, h2, h3, h4⟩, h5⟩]
          simp
        rw [hf, Option.toList_some] at hstep
        have hE := fun w => encode_good vn kn xpl.data.toList hv hk4 (by simpa using h5) w
        rw [bstr_self] at hE
        have hel1 := encs_len (goods (l.take k)) (goods_good _)
        have hwl := wireF_length vn kn xpl.data.toList
        have h10 := putN_len10 xpl.data.toList.length (by have : xpl.data.toList.length = xpl.size := (by simp); omega)
        have hxl : xpl.data.toList.length = xpl.size := by simp
        have hz : ∀ W, (Op.stringOp .add (bstr (encs (goods (l.take k)))) (bstr (wireF vn kn xpl.data.toList))).run Try.prog W = .ok (.string (bstr (encs (goods (l.take k))) ++ bstr (wireF vn kn xpl.data.toList))) W :=
          fun W => run_string_add_sum W _ _ (by rw [bstr_size, bstr_size]; omega)
        have hbx : ∀ w : World, Blk w wr.heap.size 34 #[.int .i64 (vn : Int), .int .i64 (kn : Int), .string xpl] → True := fun _ _ => trivial
        have hglen : (goods (l.take k)).length + 1 ≤ 4398046511104 := by omega
        have hrow : bstr xpl.data.toList = xpl := bstr_self _
        have hSw : bstr (encs (goods (l.take k))) ++ bstr (wireF vn kn xpl.data.toList) = bstr (encs (goods (l.take (k + 1)))) := by
          rw [bstr_append, hstep, encs_append, encs_cons, encs_nil, List.append_nil]
        have HSw := Lib.hid hSw
        clear hSw
        generalize bstr (wireF vn kn xpl.data.toList) = S at *
        have HX := Lib.hid hE
        have HS := Lib.hid hstep
        have HR := Lib.hid hrow
        clear hE hstep hx hg hf hel1 hwl h10 hxl hrow
        have hb5 := hbr.alloc hbr.size (.cells #[Value.int .i64 (vn : Int), Value.int .i64 (kn : Int), Value.string xpl] 34)
        have bx := Blk.new wr 34 #[Value.int .i64 (vn : Int), Value.int .i64 (kn : Int), Value.string xpl]
        have ho5 := hown.alloc (.cells #[Value.int .i64 (vn : Int), Value.int .i64 (kn : Int), Value.string xpl] 34)
        go_wp2_with (refine wpList_load_at rfl _ _ rfl (a.add (k * 3)) rfl [Value.int .i64 (vn : Int), Value.int .i64 (kn : Int), Value.string xpl] _ hat Try.underlying34 rfl frame_size3 ?_)
        refine (HX.out _).mono ?_
        rintro e w4 ⟨rfl, hb4⟩
        have bx4 := bx.below hb4 bx.lt
        have ho4 := ho5.below hb4
        have hb6 := hb5.trans (hb4.mono hb5.size)
        have c0 : w4.cell? ⟨wr.heap.size, 0, none⟩ = some (Value.int .i64 (vn : Int)) := bx4.cell 0
        have c1 : w4.cell? ⟨wr.heap.size, 1, none⟩ = some (Value.int .i64 (kn : Int)) := bx4.cell 1
        have c2 : w4.cell? ⟨wr.heap.size, 2, none⟩ = some (Value.string xpl) := bx4.cell 2
        have hby := Blk.new w4 34 #[Value.int .i64 (vn : Int), Value.int .i64 (kn : Int), Value.string xpl]
        have ho7 := ho4.alloc (.cells #[Value.int .i64 (vn : Int), Value.int .i64 (kn : Int), Value.string xpl] 34)
        have hb7 := hb6.alloc hb6.size (.cells #[Value.int .i64 (vn : Int), Value.int .i64 (kn : Int), Value.string xpl] 34)
        have hby' : Blk (w4.alloc (.cells #[Value.int .i64 (vn : Int), Value.int .i64 (kn : Int), Value.string xpl] 34)) w4.heap.size 34 #[Value.int .i64 ((⟨vn, kn, xpl.data.toList⟩ : Fr).ver : Int), Value.int .i64 ((⟨vn, kn, xpl.data.toList⟩ : Fr).kind : Int), Value.string (bstr (⟨vn, kn, xpl.data.toList⟩ : Fr).pl)] := by
          show Blk _ _ _ #[Value.int .i64 (vn : Int), Value.int .i64 (kn : Int), Value.string (bstr xpl.data.toList)]
          rw [HR.out]; exact hby
        clear hat hb4 hb5 bx ho5 bx4 ho4 hown hby
        go_wp2_with (at_builtin; refine wpList_append_fr rfl _ _ rfl w.heap.size _ (goods (l.take k)) rfl ho7 w4.heap.size ⟨vn, kn, xpl.data.toList⟩ rfl hby' hglen hb7.size ?_)
        intro v5 w5 ho5 hb8
        have hb9 := hb7.trans hb8
        clear c0 c1 c2 hby' ho7
        go_wp2_with fail
        go_roundw
        case rel => exact ⟨k + 1, by omega, by go_num, by rw [HSw.out], by rw [HS.out]; exact ho5, hb9⟩
        case measure => simp [intOf]; omega
      · have hf : frOf x = none := by unfold frOf; rw [if_neg hgood]
        rw [hf] at hstep
        obtain ⟨xv, xk, xpl⟩ := x
        obtain ⟨⟨⟨v1, v2⟩, k1, k2⟩, hs⟩ := hg
        simp only [] at v1 v2 k1 k2 hs
        obtain ⟨y, hy, hE⟩ := encode_bad xv xk xpl v1 v2 k1 k2 (by omega) hgood
        have hx1 : ((y : Int) == 0) = false := beq_eq_false_iff_ne.2 (by omega)
        have HX := Lib.hid hE
        have HS := Lib.hid hstep
        have hb5 := hbr.alloc hbr.size (.cells #[Value.int .i64 xv, Value.int .i64 xk, Value.string xpl] 34)
        have ho5 := hown.alloc (.cells #[Value.int .i64 xv, Value.int .i64 xk, Value.string xpl] 34)
        clear hE hstep hx hgood hf hy
        go_wp2_with (refine wpList_load_at rfl _ _ rfl (a.add (k * 3)) rfl [Value.int .i64 xv, Value.int .i64 xk, Value.string xpl] _ hat Try.underlying34 rfl frame_size3 ?_)
        refine (HX.out _).mono ?_
        rintro e w4 ⟨rfl, hb4⟩
        have ho4 := ho5.below hb4
        have hb6 := hb5.trans (hb4.mono hb5.size)
        clear hat hb4 hb5 ho5
        go_wp2_with fail
        go_roundw
        case rel => exact ⟨k + 1, by omega, by go_num, by rw [HS.out]; simp, by rw [HS.out]; simpa using ho4, hb6⟩
        case measure => simp [intOf]; omega
    · obtain rfl : k = l.length := by omega
      have hP := push_all (goods l) (goods_good l) (by have := goods_len l; omega)
      rw [List.take_length] at *
      have hlen : (bstr (encs (goods l))).size = (encs (goods l)).length := bstr_size _
      have hrest : bstr ((encs (goods l)).drop (encs (goods l)).length) = ByteArray.empty := by rw [List.drop_length]; rfl
      have HP := Lib.hid (fun w g hb => (hP w g hb).mono fun e w' h => h.ok rfl)
      have HL := Lib.hid hlen
      have HR := Lib.hid hrest
      have hgl2 := goods_len l
      clear hP hlen hrest hgl
      go_wp2_with fail
      refine (new_any _).mono ?_
      rintro e w2 ⟨rfl, rfl⟩
      have b0 := Blk.new wr 43 #[.string ByteArray.empty, .int .i64 0, .int .i64 0]
      have hB := hbr.alloc hbr.size (.cells #[.string ByteArray.empty, .int .i64 0, .int .i64 0] 43)
      have ho2 := hown.alloc (.cells #[.string ByteArray.empty, .int .i64 0, .int .i64 0] 43)
      have hlt2 : wr.heap.size < (wr.alloc (.cells #[.string ByteArray.empty, .int .i64 0, .int .i64 0] 43)).heap.size := by simp
      have hbs := hbr.size
      generalize hW2 : wr.alloc (.cells #[.string ByteArray.empty, .int .i64 0, .int .i64 0] 43) = w2 at *
      clear hW2
      obtain ⟨pv, qv, rfl⟩ := hown.form
      go_wp2_with fail
      refine (HP.out w2 _ b0).mono ?_
      rintro e w3 ⟨p3, q3, rfl, ho3, b3, ha3⟩
      have hB3 := hB.trans (ha3.toBelow hbs hB.size)
      have he3 := ho3.elts
      have hew := (ho2.elts_asd ha3 (fun h0 => by have := (World.ownsRow.lt hown _ h0).2; omega))
      rw [HR.out, Nat.zero_add] at b3
      clear ha3 ho3 ho2 hB b0
      go_wp2_with fail
      refine (eqFr_same _ _ _ _ (goods l) _ he3 hew (by omega)).mono ?_
      rintro e w4 ⟨rfl, hb4⟩
      have b4 := b3.below hb4 b3.lt
      have hB4 := hB3.trans (hb4.mono hB3.size)
      have e1 : (((encs (goods l)).length : Int) == ((bstr (encs (goods l))).size : Int)) = true := by rw [HL.out]; simp
      generalize bstr (encs (goods l)) = T at *
      clear he3 hew b3 hb4
      go_wp2_with fail
      refine (left_any wr.heap.size _ _ _ _ b4).mono ?_
      rintro e w5 ⟨rfl, rfl⟩
      go_wp2_with fail
      refine (at_any wr.heap.size _ _ _ _ b4).mono ?_
      rintro e w5 ⟨rfl, rfl⟩
      go_wp2_with fail
      go_ret
      exact ⟨rfl, hB4⟩

theorem own : ownKnob Try.prog.godebug = none := by kernel_rfl
theorem laid : laidOutB Try.prog = true := by kernel_rfl
set_option maxRecDepth 100000 in
theorem contract (H : Type) (enc : TypeId × Value → H) (W : World) (base : Nat) (args : Array Value) (ds gs : List (DataW H)) (before : List MemPlace)
    (hval0 : ∀ (j : Nat) t v, Try.f4.params[j]? = some t → args[j]? = some v → Value.okWide Try.prog W .any base t v)
    (hW : DataW.Whole enc Try.prog Try.f4.params.toList Rows.feedAllSpec.vars false W args.toList ds gs before)
    (hsz0 : (DataW.weightsEach Try.prog (Try.f4.params.toList ++ Rows.feedAllSpec.plain.varTypes Try.prog) (ds ++ gs)).all (· ≤ reachBytes) = true) :
    Calls Try.prog 4 args W fun e W' => ∃ v, e = .returned v ∧ Rows.feedAllSpec.post enc Try.prog Try.f4 false true false false W args v W' := by
  have hval : ∀ (j : Nat) t v, Try.f4.params[j]? = some t → args[j]? = some v → Value.okWide Try.prog W .any base t v := hval0
  have hsz : (DataW.weightsEach Try.prog (Try.f4.params.toList ++ Rows.feedAllSpec.plain.varTypes Try.prog) (ds ++ gs)).all (· ≤ reachBytes) = true := hsz0
  have hlt : ∀ x ∈ before, x.block < W.heap.size := fun x hx => hW.lt x hx
  have hW' := hW
  obtain ⟨p, q, hA0, hV, rfl, hfz, hnd⟩ := hW
  have hA : DataW.TrodAll enc Try.prog W 0 (fun _ => true) true Try.f4.params.toList args.toList ds p := hA0
  rw [Try.params4] at hA hval hsz
  obtain ⟨v0, vs0, d0, ds0, p0, q0, hargs, rfl, rfl, h0, r0⟩ := trodAll_cons hA
  obtain ⟨rfl, rfl, rfl⟩ := trodAll_nil r0
  obtain rfl : args = #[v0] := by cases args; simp_all
  obtain ⟨rfl, rfl⟩ := trodVars_none hV
  obtain ⟨p0, c0, l0, rfl, hlc0, hcm0, hel0, hok0, hd0⟩ := open_rows rowFI datFI okFI 3 Try.underlying26 (by kernel_rfl) (by decide) (hval 0 26 v0 rfl rfl) h0 (fun n cs d pl => elem_FI n cs d pl)
  obtain ⟨hsl0, hss0⟩ := frames_sized hsz (j := 0) rfl hd0 rfl
  refine (walk p0 c0 l0 W hel0 (fun x hx => ⟨hok0 x hx, hss0 x hx⟩) hsl0).mono fun e W' ⟨he, hb⟩ => ?_
  subst he
  exact ⟨_, rfl, law_post laid (by kernel_rfl) Try.underlying4 rfl rfl hW' rfl rfl rfl rfl hb⟩

set_option maxRecDepth 100000 in
theorem lifted (os : Os) (started : os.Started) (H : Type) (enc : TypeId × Value → H) :
    ReturnsInHanded {} Try.checked os 4 .any (Rows.feedAllSpec.pre6 enc Try.prog Try.f4 Rows.feedAllRow.domain false) (Rows.feedAllSpec.post enc Try.prog Try.f4 false true false false) := by
  refine returnsInHanded_of_change_sized (C := Try.checked) own started (by kernel_rfl) Try.func4
    (ChangeSpec.witness6 (enc := enc) (C := Try.checked) false ⟨#[], #[.slice none 0 0], []⟩ 8 (by kernel_rfl) (by kernel_rfl) (by kernel_rfl) (by kernel_rfl)) ?_
  intro W base args ds gs before hval0 hW _ hsz0 _
  exact contract H enc W base args ds gs before hval0 hW hsz0

theorem over : Rows.feedAllRow.holds Try.pinned (OpenSpec.ofChange Rows.feedAllSpec) :=
  OpenClaim.holds_of_wide 4 Try.f4 rfl rfl rfl rfl rfl rfl rfl ⟨rfl, rfl, rfl, rfl, rfl⟩ rfl rfl rfl rfl rfl (by kernel_rfl) Try.func4 (by kernel_rfl)
    (of_decide_eq_true (by kernel_rfl)) (by unfold Func.isWrapper; first | (rw [if_pos (by decide +kernel)]; kernel_rfl) | (rw [if_neg (by decide +kernel)]; exact ⟨rfl, rfl⟩))
    (fun os started H enc _ => lifted os started H enc)

/-- The statement. -/
theorem proved : Rows.FeedAllSaid := over
#print axioms proved
end Go.Proofs.Ytbjngeaoimaooaa.feedAll
