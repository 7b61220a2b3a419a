/-
  Several texts in one: ReplyPh, ReplyWh, ReplyDh.
-/
import Derived.Test.YtibiankbmhdljaaGreatDoorPkRead
set_option linter.all false
set_option maxHeartbeats 16000000
set_option maxRecDepth 100000
namespace Go.Proofs.YtibiankbmhdljaaGreatDoor
open Go.Proofs.Tryz
open Go.RowKit
def uzj (c v : Int) : Bool := decide (0 <= c) && decide (c <= 10) && (decide (0 <= v) && decide (v <= 1099511627776))
theorem uvg {c v : Int} : uzj c v = true ↔ (0 <= c ∧ c <= 10) ∧ 0 <= v ∧ v <= 1099511627776 := by
 unfold uzj; simp only [Bool.and_eq_true, decide_eq_true_eq]
def encP (c v : Int) : List UInt8 := putN c.toNat ++ putN v.toNat
def vqo (l : List UInt8) : Res (Int × Int) := pSeq pInt (fun _ => pInt) l
theorem uyi : PP vqo (fun x => encP x.1 x.2) (fun x => okNb x.1 ∧ okNb x.2) := ux9.seq fun _ _ => ux9
def encPR (c v : Int) : List UInt8 × Nat := if uzj c v = true then (encP c v, 0) else ([], 1)
def decPR (l : List UInt8) : Int × Int × Nat := match vqo l with
 | .bad e => (0, 0, e)
 | .ok x r => if r ≠ [] then (0, 0, 4) else if uzj x.1 x.2 = true then (x.1, x.2, 0) else (0, 0, 1)
theorem vv2 {c v : Int} (h : uzj c v = true) : okNb c ∧ okNb v := by
 obtain ⟨⟨h1, h2⟩, h3, h4⟩ := uvg.1 h
 exact ⟨⟨h1, by omega⟩, h3, by omega⟩
theorem vyx {c v : Int} (h : uzj c v = true) : decPR (encP c v) = (c, v, 0) := by
 unfold decPR
 have := uyi.fwd (c, v) [] (vv2 h)
 rw [List.append_nil] at this
 rw [this]
 simp only []
 rw [if_neg (by simp), if_pos h]
theorem wwu (x : Int) (w : World) :
  Calls prog 91 #[.int .i64 x] w fun e w' => e = .returned (.bool (decide (0 <= x) && decide (x <= 1099511627776))) ∧ w = w' := by
 by_cases h1 : 0 <= x
 ·go_enter func91, ntmps91
  go_wp2_with fail
  go_ret
  exact ⟨congrArg (fun b => Ending.returned (.bool b)) (by simp [h1]), rfl⟩
 ·have h1' : x < 0 := by omega
  go_enter func91, ntmps91
  go_wp2_with fail
  all_goals go_ret
  all_goals exact ⟨congrArg (fun b => Ending.returned (.bool b)) (by simp; omega), rfl⟩
theorem vkj (c v : Int) (w : World) :
  Calls prog 50 #[.agg #[.int .i64 c, .int .i64 v]] w fun e w' => e = .returned (.bool (uzj c v)) ∧ Below w.heap.size w w' := by
 have hb0 : Below w.heap.size w (w.alloc (.cells #[.int .i64 c, .int .i64 v] 47)) := (zri _ _).alloc (zra _) _
 have HI := zrj (fun (W : World) => wwu v W)
 have HV := zrj (show uzj c v = (decide (0 <= c) && decide (c <= 10) && (decide (0 <= v) && decide (v <= 1099511627776))) from rfl)
 generalize (decide (0 <= v) && decide (v <= 1099511627776)) = bt at *
 by_cases h1 : 0 <= c
 ·have d1 : decide (0 <= c) = true := decide_eq_true h1
  by_cases h2 : c <= 10
  ·have d2 : decide (c <= 10) = true := decide_eq_true h2
   have HR := zrj (show uzj c v = bt from by rw [HV.out, d1, d2]; rfl)
   go_enter func50, ntmps50
   go_wp2_with fail
   refine (HI.out _).mono ?_
   rintro e w' ⟨rfl, rfl⟩
   go_wp2_with fail
   go_ret
   exact ⟨by rw [HR.out]; rfl, hb0⟩
  ·have d2 : decide (c <= 10) = false := decide_eq_false h2
   have HR := zrj (show uzj c v = false from by rw [HV.out, d1, d2]; rfl)
   go_enter func50, ntmps50
   go_wp2_with fail
   go_ret
   exact ⟨by rw [HR.out]; rfl, hb0⟩
 ·have d1 : decide (0 <= c) = false := decide_eq_false h1
  have HR := zrj (show uzj c v = false from by rw [HV.out, d1]; rfl)
  go_enter func50, ntmps50
  go_wp2_with fail
  go_ret
  exact ⟨by rw [HR.out]; rfl, hb0⟩
theorem xz1 (c v : Int) (w : World) :
  Calls prog 121 #[.agg #[.int .i64 c, .int .i64 v]] w fun e w' => e = .returned (.tuple #[.string (bstr (encPR c v).1), .int .i64 ((encPR c v).2 : Int)]) ∧ Below w.heap.size w w' := by
 have hb0 : Below w.heap.size w (w.alloc (.cells #[.int .i64 c, .int .i64 v] 47)) := (zri _ _).alloc (zra _) _
 have bx := Blk.new w 47 #[.int .i64 c, .int .i64 v]
 have hi := vkj c v (w.alloc (.cells #[.int .i64 c, .int .i64 v] 47))
 have HE := zrj (show encPR c v = if uzj c v = true then (encP c v, 0) else ([], 1) from rfl)
 cases hr : uzj c v
 ·rw [hr] at hi HE
  rw [if_neg (by simp)] at HE
  have HI := zrj hi
  clear hi hr
  go_enter func121, ntmps121
  go_wp2_with fail
  refine HI.out.mono ?_
  rintro e w1 ⟨rfl, hb1⟩
  have hB1 := hb0.trans (hb1.mono hb0.size)
  go_wp2_with fail
  go_ret2
  exact ⟨by rw [HE.out]; rfl, hB1⟩
 ·rw [hr] at hi HE
  rw [if_pos rfl] at HE
  obtain ⟨hn1, hn2⟩ := vv2 hr
  have l1 := uqk c.toNat (by have := hn1.2; omega)
  have l2 := uqk v.toNat (by have := hn2.2; omega)
  have HN1 := zrj hn1
  have HN2 := zrj hn2
  have HI := zrj hi
  clear hi hr hn1 hn2
  go_enter func121, ntmps121
  go_wp2_with fail
  refine HI.out.mono ?_
  rintro e w2 ⟨rfl, hb2⟩
  have hB2 := hb0.trans (hb2.mono hb0.size)
  have bx2 := bx.below hb2 bx.lt
  clear hb2 hb0 bx HI
  have bw := Blk.new w2 136 #[.slice none 0 0]
  have hB3 := hB2.alloc hB2.size (.cells #[.slice none 0 0] 136)
  have bx3 := bx2.alloc (.cells #[.slice none 0 0] 136)
  have hW3 : Wr (w2.alloc (.cells #[.slice none 0 0] 136)) w2.heap.size [] := ⟨_, bw, Buf.nil _ _ _⟩
  have n1 : w.heap.size ≠ w2.heap.size := by have := bx2.lt; omega
  have hsz2 := hB2.size
  have x0 : (w2.alloc (.cells #[.slice none 0 0] 136)).cell? ⟨w.heap.size, 0, none⟩ = some (.int .i64 c) := bx3.cell 0
  clear bw bx2 hB2
  go_wp2_with fail
  generalize w2.alloc _ = w3 at *
  refine (uq0 w2.heap.size [] c w3 hW3 HN1.out (by simp)).mono ?_
  rintro e w4 ⟨rfl, h4, B4, K4⟩
  rw [List.nil_append] at h4
  have bx4 := K4 _ _ _ (by decide) n1 bx3
  have hB4 := hB3.trans (B4.mono hsz2)
  have x1 : w4.cell? ⟨w.heap.size, 1, none⟩ = some (.int .i64 v) := bx4.cell 1
  clear hB3 bx3 B4 K4 hW3 x0
  go_wp2_with fail
  refine (uq0 w2.heap.size _ v w4 h4 HN2.out (by omega)).mono ?_
  rintro e w5 ⟨rfl, h5, B5, K5⟩
  have hB5 := hB4.trans (B5.mono hsz2)
  have HO := zrj (show putN c.toNat ++ putN v.toNat = encP c v from rfl)
  rw [HO.out] at h5
  clear hB4 bx4 B5 K5 h4 x1 HO
  obtain ⟨vv, bw7, hv7⟩ := h5
  obtain ⟨pa, ca, rfl⟩ := hv7.form
  have ew : w5.cell? ⟨w2.heap.size, 0, none⟩ = some (.slice pa (encP c v).length ca) := bw7.cell 0
  have hcv := uzl (P := prog) (U := 5) (src := 88) (dst := 9) underlying88 underlying5 underlying9 hv7
  generalize encP c v = out at *
  have HB := zrj hB5
  clear hB5 bw7 hv7
  go_wp2_with fail
  go_ret2
  exact ⟨by rw [HE.out]; rfl, HB.out⟩
theorem Blk.gr_ {w w' : World} {g b : Nat} {t : TypeId} {cs : Array Value} (h : Blk w g t cs) (hg : w.grownBy w' (some b)) (hne : g ≠ b) : Blk w' g t cs := (hg.block g h.lt (by intro h0; injection h0 with h0; exact hne h0)).trans h
theorem wwd {x : Nat} {l : List UInt8} (h : endE x l = 0) : x = 0 ∧ l = [] := by
 unfold endE at h
 by_cases h1 : x = 0
 ·rw [if_neg (by simp [h1])] at h
  by_cases h2 : l = []
  ·exact ⟨h1, h2⟩
  ·rw [if_neg h2] at h; cases h
 ·rw [if_pos h1] at h; exact absurd h h1
theorem xqn {l l' : List UInt8} {a : Int × Int} {y : Nat} (h : Step vqo l 0 a l' y) (he : endE y l' ≠ 0) : decPR l = (0, 0, endE y l') := by
 unfold decPR
 cases hp : vqo l with
 | bad z =>
  obtain rfl := (h.2.2 rfl).2 _ hp
  have := uyi.err _ _ hp
  simp only []
  unfold endE; rw [if_pos this]
 | ok t r =>
  obtain ⟨rfl, rfl, rfl⟩ := (h.2.2 rfl).1 _ _ hp
  unfold endE at he ⊢
  by_cases hr : l' = []
  ·rw [if_neg (by simp), if_pos hr] at he; exact absurd rfl he
  ·simp only []
   rw [if_pos hr, if_neg (by simp), if_neg hr]
theorem wv9 {l l' : List UInt8} {a : Int × Int} {y : Nat} (h : Step vqo l 0 a l' y) (he : endE y l' = 0) : decPR l = if uzj a.1 a.2 = true then (a.1, a.2, 0) else (0, 0, 1) := by
 obtain ⟨rfl, rfl⟩ := wwd he
 have hp : vqo l = .ok a [] := by
  cases hp : vqo l with
  | bad z =>
   have h1 := (h.2.2 rfl).2 _ hp
   exact absurd h1.symm (uyi.err _ _ hp)
  | ok t r =>
   obtain ⟨rfl, rfl, _⟩ := (h.2.2 rfl).1 _ _ hp
   rfl
 unfold decPR
 rw [hp]
 simp only []
 rw [if_neg (by simp)]
theorem vvl (W : World) : (zeroValue 47).run prog W = .ok (.agg #[.int .i64 0, .int .i64 0]) W := by kernel_rfl
theorem uzx : (prog.info? 47).map (·.size) = some 2 := by kernel_rfl
theorem wkw (a b : Int) : (#[.int .i64 a, .int .i64 b] : Array Value).all (·.oneCell') = true := by simp [Value.oneCell']
def RepPost (w : World) (r : Int × Int × Nat) (e : Ending) (w' : World) : Prop := e = .returned (.tuple #[.agg #[.int .i64 r.1, .int .i64 r.2.1], .int .i64 (r.2.2 : Int)]) ∧ Below w.heap.size w w'
theorem vxp (b : ByteArray) (w : World) :
  Calls prog 21 #[.string b] w fun e w' => RepPost w (decPR b.data.toList) e w' := by
 have hzd := vvl
 obtain ⟨l, rfl⟩ : ∃ l, b = bstr l := ⟨b.data.toList, (ux2 b).symm⟩
 rw [uqu]
 have s1 : (w.alloc (.cells #[.int .i64 0, .int .i64 0] 47)).heap.size = w.heap.size + 1 := by simp
 have br3 : Blk ((w.alloc (.cells #[.int .i64 0, .int .i64 0] 47)).alloc (.cells #[.string (bstr l), .int .i64 0] 118)) w.heap.size 47 #[.int .i64 0, .int .i64 0] := (Blk.new w _ _).alloc _
 have rd3 : Rd ((w.alloc (.cells #[.int .i64 0, .int .i64 0] 47)).alloc (.cells #[.string (bstr l), .int .i64 0] 118)) (w.heap.size + 1) l 0 := by have := Blk.new (w.alloc (.cells #[.int .i64 0, .int .i64 0] 47)) 118 #[.string (bstr l), .int .i64 0]; rw [s1] at this; exact this
 have hB3 : Below w.heap.size w ((w.alloc (.cells #[.int .i64 0, .int .i64 0] 47)).alloc (.cells #[.string (bstr l), .int .i64 0] 118)) := ((zri _ _).alloc (zra _) _).alloc (by omega) _
 clear s1
 go_enter func21, ntmps21
 go_wp2_with fail
 generalize (w.alloc (.cells #[.int .i64 0, .int .i64 0] 47)).alloc (.cells #[.string (bstr l), .int .i64 0] 118) = W3 at *
 refine (uxl (w.heap.size + 1) 0 l W3 rd3).mono ?_
 rintro e w4 ⟨G4, n, l1, y1, rfl, R4, S4, _, _, hn⟩
 have br4 := br3.gr_ G4 (by omega)
 have hB4 : Below w.heap.size w w4 := hB3.grown G4 (by have := rd3.lt; omega) (fun k hk => by injection hk with hk; omega)
 have HS4 := zrj S4
 clear S4 G4 br3 rd3 hB3
 go_wp2_with fail
 refine (uxl (w.heap.size + 1) y1 l1 w4 R4).mono ?_
 rintro e w5 ⟨G5, m, l2, y2, rfl, R5, S5, _, _, hm⟩
 have br5 := br4.gr_ G5 (by omega)
 have hB5 : Below w.heap.size w w5 := hB4.grown G5 (by have := br4.lt; omega) (fun k hk => by injection hk with hk; omega)
 have HST := zrj (show Step vqo l 0 ((n : Int), (m : Int)) l2 y2 from Step.seq (q := fun _ => pInt) HS4.out S5 ux9.err)
 clear S5 G5 br4 R4 hB4 HS4
 have bd6 := Blk.new w5 47 #[.int .i64 (n : Int), .int .i64 (m : Int)]
 have br6 := br5.alloc (.cells #[.int .i64 (n : Int), .int .i64 (m : Int)] 47)
 have rd6 : Rd (w5.alloc (.cells #[.int .i64 (n : Int), .int .i64 (m : Int)] 47)) (w.heap.size + 1) l2 y2 := Blk.alloc R5 _
 have hB6 := hB5.alloc hB5.size (.cells #[.int .i64 (n : Int), .int .i64 (m : Int)] 47)
 have hg6 : w.heap.size + 1 < w5.heap.size := R5.lt
 clear br5 R5 hB5
 go_wp2_with (first | (refine uqg rfl _ _ _ rfl rfl _ _ #[.int .i64 (n : Int), .int .i64 (m : Int)] rfl uzx rfl (wkw _ _) ?_))
 generalize w5.alloc (.cells #[.int .i64 (n : Int), .int .i64 (m : Int)] 47) = w6 at *
 generalize w5.heap.size = gd at *
 refine (uwt (w.heap.size + 1) y2 l2 w6 rd6).mono ?_
 rintro e w7 ⟨G7, rfl⟩
 have br7 := br6.gr_ G7 (by omega)
 have bd7 := bd6.gr_ G7 (by omega)
 have hB7 : Below w.heap.size w w7 := hB6.grown G7 (by have := br6.lt; omega) (fun k hk => by injection hk with hk; omega)
 clear G7 br6 bd6 rd6 hB6
 by_cases he : endE y2 l2 = 0
 ·have hd := wv9 HST.out he
  simp only [] at hd
  have hez : ((endE y2 l2 : Int) != 0) = false := by rw [he]; rfl
  have hi := vkj (n : Int) (m : Int) w7
  generalize hee : endE y2 l2 = ee at *
  clear he hee HST
  cases hr : uzj (n : Int) (m : Int)
  ·rw [hr] at hi hd
   rw [if_neg (by simp)] at hd
   have HI := zrj hi
   have HD := zrj hd
   clear hi hd hr
   go_wp2_with (first | (refine uqc rfl _ _ rfl gd rfl _ _ bd7 _ underlying47 rfl uzx ?_))
   refine HI.out.mono ?_
   rintro e w8 ⟨rfl, hb8⟩
   have hB8 := hB7.trans (hb8.mono hB7.size)
   have br8 := br7.below hb8 br7.lt
   go_wp2_with (first | (refine uqf rfl _ _ _ rfl w.heap.size rfl _ _ #[.int .i64 0, .int .i64 0] br8 rfl uzx rfl (wkw _ _) ?_))
   refine bodyPost_ret (uqt rfl _ rfl (br8.setRow #[.int .i64 0, .int .i64 0]) underlying47 rfl uzx) rfl ?_
   exact ⟨by rw [HD.out]; rfl, uqi hB8 (zra _) _⟩
  ·rw [hr] at hi hd
   rw [if_pos rfl] at hd
   have HI := zrj hi
   have HD := zrj hd
   clear hi hd hr
   go_wp2_with (first | (refine uqc rfl _ _ rfl gd rfl _ _ bd7 _ underlying47 rfl uzx ?_))
   refine HI.out.mono ?_
   rintro e w8 ⟨rfl, hb8⟩
   have hB8 := hB7.trans (hb8.mono hB7.size)
   have br8 := br7.below hb8 br7.lt
   have bd8 := bd7.below hb8 bd7.lt
   go_wp2_with (first | (refine uqc rfl _ _ rfl gd rfl _ _ bd8 _ underlying47 rfl uzx ?_) | (refine uqf rfl _ _ _ rfl w.heap.size rfl _ _ #[.int .i64 (n : Int), .int .i64 (m : Int)] br8 rfl uzx rfl (wkw _ _) ?_))
   refine bodyPost_ret (uqt rfl _ rfl (br8.setRow #[.int .i64 (n : Int), .int .i64 (m : Int)]) underlying47 rfl uzx) rfl ?_
   exact ⟨by rw [HD.out]; rfl, uqi hB8 (zra _) _⟩
 ·have hez : ((endE y2 l2 : Int) != 0) = true := by rw [bne_iff_ne]; omega
  have HD := zrj (xqn HST.out he)
  generalize endE y2 l2 = ee at *
  clear he HST
  go_wp2_with (first | (refine uqf rfl _ _ _ rfl w.heap.size rfl _ _ #[.int .i64 0, .int .i64 0] br7 rfl uzx rfl (wkw _ _) ?_))
  refine bodyPost_ret (uqt rfl _ rfl (br7.setRow #[.int .i64 0, .int .i64 0]) underlying47 rfl uzx) rfl ?_
  exact ⟨by rw [HD.out]; rfl, uqi hB7 (zra _) _⟩
end Go.Proofs.YtibiankbmhdljaaGreatDoor
