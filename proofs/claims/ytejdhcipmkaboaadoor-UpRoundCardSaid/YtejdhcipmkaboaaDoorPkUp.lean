/-
  Several texts in one: UpP, UpL, IxP, IxFL, CloneW, UpOwn, UpStep, UpW, UppedW.
-/
import Derived.Test.YtejdhcipmkaboaaDoorPkFits
import Derived.Test.YtejdhcipmkaboaaDoorPkStateA
import Derived.Test.YtejdhcipmkaboaaDoorPkBase
import Derived.Test.YtejdhcipmkaboaaDoorPkOwn
import Derived.Test.YtejdhcipmkaboaaDoorPkStateB
import Derived.Deep.RegionLaw
import Derived.Test.YtejdhcipmkaboaaDoorPkSame
/-
  Plain: states from version to version.
-/
set_option linter.unusedVariables false
set_option linter.unusedSimpArgs false
namespace Go.Proofs.YtejdhcipmkaboaaDoor
def dash : ByteArray := ⟨#[45]⟩
def hasL (ls : List LeaseD) (nm : ByteArray) : Bool := ls.any fun l => decide (l.job = nm)
def triesJ (ls : List LeaseD) (j : JobD) : JobD := ⟨j.name, j.prio, j.need, if hasL ls j.name = true then 1 else j.tries, j.tag⟩
def zoneN (n : NodeD) : NodeD := ⟨n.name, n.room, dash⟩
def mapS (r : Int) (f : JobD → JobD) (g : NodeD → NodeD) (s : St) : St := ⟨r, s.jobs.map f, s.nodes.map g, s.leases⟩
/-- A step to version k. -/
def stepS (s : St) (k : Nat) : St := if k = 2 then mapS s.rev (triesJ s.leases) zoneN s else if k = 3 then ⟨1, s.jobs, s.nodes, s.leases⟩ else s
/-- So many steps up from version a. -/
def upTo (s : St) (a : Nat) : Nat → St
  | 0 => s
  | n + 1 => stepS (upTo s a n) (a + n + 1)
def downJ (k : Int) (j : JobD) : JobD := ⟨j.name, j.prio, j.need, if decide (k < 2) = true then 0 else j.tries, if decide (k < 3) = true then ByteArray.empty else j.tag⟩
def downN (k : Int) (n : NodeD) : NodeD := ⟨n.name, n.room, if decide (k < 2) = true then ByteArray.empty else n.zone⟩
def downS (k : Int) (s : St) : St := mapS (if decide (k < 3) = true then 0 else s.rev) (downJ k) (downN k) s
theorem sorted_maps {α : Type} {key : α → ByteArray} {l : List α} (h : Sorted key l) (f : α → α) (hf : ∀ x, key (f x) = key x) : Sorted key (l.map f) := by
  unfold Sorted at h ⊢
  rw [List.pairwise_map]
  exact h.imp fun {a b} hab => by rw [hf, hf]; exact hab
theorem jobAt_map (f : JobD → JobD) (hf : ∀ j, (f j).name = j.name) (l : List JobD) (nm : ByteArray) : jobAt (l.map f) nm = (jobAt l nm).map f := by
  unfold jobAt
  induction l with
  | nil => rfl
  | cons a r ih =>
    rw [List.map_cons, List.find?_cons, List.find?_cons, hf, ih]
    cases decide (a.name = nm) <;> rfl
theorem nodeAt_map (f : NodeD → NodeD) (hf : ∀ j, (f j).name = j.name) (l : List NodeD) (nm : ByteArray) : nodeAt (l.map f) nm = (nodeAt l nm).map f := by
  unfold nodeAt
  induction l with
  | nil => rfl
  | cons a r ih =>
    rw [List.map_cons, List.find?_cons, List.find?_cons, hf, ih]
    cases decide (a.name = nm) <;> rfl
theorem needOf_map (f : JobD → JobD) (hf : ∀ j, (f j).name = j.name ∧ (f j).need = j.need) (l : List JobD) (nm : ByteArray) : needOf (l.map f) nm = needOf l nm := by
  unfold needOf
  rw [jobAt_map f (fun j => (hf j).1)]
  cases jobAt l nm with
  | none => rfl
  | some j => simp [(hf j).2]
theorem usedBy_map (f : JobD → JobD) (hf : ∀ j, (f j).name = j.name ∧ (f j).need = j.need) (l : List JobD) (nm : ByteArray) : ∀ ls : List LeaseD, usedBy (l.map f) nm ls = usedBy l nm ls
  | [] => rfl
  | a :: r => by
    unfold usedBy
    rw [needOf_map f hf, usedBy_map f hf l nm r]
theorem leaseE_map (f : JobD → JobD) (hf : ∀ j, (f j).name = j.name) (g : NodeD → NodeD) (hg : ∀ j, (g j).name = j.name) (jobs : List JobD) (nodes : List NodeD) (l : LeaseD) : leaseE (jobs.map f) (nodes.map g) l = leaseE jobs nodes l := by
  unfold leaseE
  rw [jobAt_map f hf, nodeAt_map g hg]
  simp
theorem Fine.map_ {s : St} (h : Fine s) (r : Int) (f : JobD → JobD) (g : NodeD → NodeD) (hr : 0 ≤ r ∧ r ≤ 1099511627776) (hf : ∀ j, (f j).name = j.name ∧ (f j).need = j.need) (hfe : ∀ j, jobE j = 0 → jobE (f j) = 0)
    (hg : ∀ n, (g n).name = n.name ∧ (g n).room = n.room) (hge : ∀ n, nodeE n = 0 → nodeE (g n) = 0) : Fine (mapS r f g s) where
  rev := hr
  nj := by show (s.jobs.map f).length ≤ 40; rw [List.length_map]; exact h.nj
  nl := h.nl
  nn := by show (s.nodes.map g).length ≤ 20; rw [List.length_map]; exact h.nn
  j := fun x hx => by
    obtain ⟨y, hy, rfl⟩ := List.mem_map.1 (show x ∈ s.jobs.map f from hx)
    exact hfe y (h.j y hy)
  sj := sorted_maps h.sj f fun x => (hf x).1
  n := fun x hx => by
    obtain ⟨y, hy, rfl⟩ := List.mem_map.1 (show x ∈ s.nodes.map g from hx)
    exact hge y (h.n y hy)
  sn := sorted_maps h.sn g fun x => (hg x).1
  l := fun x hx => by
    show leaseE (s.jobs.map f) (s.nodes.map g) x = 0
    rw [leaseE_map f (fun j => (hf j).1) g (fun j => (hg j).1)]
    exact h.l x hx
  sl := h.sl
  room := fun n hn => by
    obtain ⟨y, hy, rfl⟩ := List.mem_map.1 (show n ∈ s.nodes.map g from hn)
    show usedBy (s.jobs.map f) (g y).name s.leases ≤ (g y).room
    rw [(hg y).1, (hg y).2, usedBy_map f hf]
    exact h.room y hy
theorem jobE_iff {j : JobD} : jobE j = 0 ↔ (nameOk j.name = true ∧ textOk j.tag = true) ∧ (-1000 ≤ j.prio ∧ j.prio ≤ 1000) ∧ (0 ≤ j.need ∧ j.need ≤ 1000000) ∧ 0 ≤ j.tries ∧ j.tries ≤ 100 := by
  unfold jobE
  constructor
  · intro h
    split at h
    · rename_i h1
      split at h
      · rename_i h2
        simp only [Bool.and_eq_true, withinB_iff] at h1 h2
        exact ⟨h1, h2.1.1, h2.1.2, h2.2⟩
      · cases h
    · cases h
  · intro ⟨h1, h2, h3, h4⟩
    rw [if_pos (by simp only [Bool.and_eq_true]; exact h1), if_pos (by simp only [Bool.and_eq_true, withinB_iff]; exact ⟨⟨h2, h3⟩, h4⟩)]
theorem nodeE_iff {n : NodeD} : nodeE n = 0 ↔ (nameOk n.name = true ∧ textOk n.zone = true) ∧ 0 ≤ n.room ∧ n.room ≤ 1000000 := by
  unfold nodeE
  constructor
  · intro h
    split at h
    · rename_i h1
      split at h
      · rename_i h2
        simp only [Bool.and_eq_true, withinB_iff] at h1 h2
        exact ⟨h1, h2⟩
      · cases h
    · cases h
  · intro ⟨h1, h2⟩
    rw [if_pos (by simp only [Bool.and_eq_true]; exact h1), if_pos (by simp only [withinB_iff]; exact h2)]
theorem triesJ_ok (ls : List LeaseD) (j : JobD) (h : jobE j = 0) : jobE (triesJ ls j) = 0 := by
  obtain ⟨h1, h2, h3, h4⟩ := jobE_iff.1 h
  refine jobE_iff.2 ⟨h1, h2, h3, ?_⟩
  show 0 ≤ (if hasL ls j.name = true then (1 : Int) else j.tries) ∧ (if hasL ls j.name = true then (1 : Int) else j.tries) ≤ 100
  split
  · omega
  · exact h4
theorem dash_ok : textOk dash = true := by decide +kernel
theorem empty_ok : textOk ByteArray.empty = true := by decide +kernel
theorem zoneN_ok (n : NodeD) (h : nodeE n = 0) : nodeE (zoneN n) = 0 := by
  obtain ⟨h1, h2⟩ := nodeE_iff.1 h
  exact nodeE_iff.2 ⟨⟨h1.1, dash_ok⟩, h2⟩
theorem downJ_ok (k : Int) (j : JobD) (h : jobE j = 0) : jobE (downJ k j) = 0 := by
  obtain ⟨h1, h2, h3, h4⟩ := jobE_iff.1 h
  refine jobE_iff.2 ⟨⟨h1.1, ?_⟩, h2, h3, ?_⟩
  · show textOk (if decide (k < 3) = true then ByteArray.empty else j.tag) = true
    split
    · exact empty_ok
    · exact h1.2
  · show 0 ≤ (if decide (k < 2) = true then (0 : Int) else j.tries) ∧ (if decide (k < 2) = true then (0 : Int) else j.tries) ≤ 100
    split
    · omega
    · exact h4
theorem downN_ok (k : Int) (n : NodeD) (h : nodeE n = 0) : nodeE (downN k n) = 0 := by
  obtain ⟨h1, h2⟩ := nodeE_iff.1 h
  refine nodeE_iff.2 ⟨⟨h1.1, ?_⟩, h2⟩
  show textOk (if decide (k < 2) = true then ByteArray.empty else n.zone) = true
  split
  · exact empty_ok
  · exact h1.2
theorem Fine.step {s : St} (h : Fine s) (k : Nat) : Fine (stepS s k) := by
  unfold stepS
  split
  · exact h.map_ _ _ _ h.rev (fun j => ⟨rfl, rfl⟩) (triesJ_ok _) (fun n => ⟨rfl, rfl⟩) zoneN_ok
  · split
    · exact ⟨⟨by show (0 : Int) ≤ 1; decide, by show (1 : Int) ≤ 1099511627776; decide⟩, h.nj, h.nl, h.nn, h.j, h.sj, h.n, h.sn, h.l, h.sl, h.room⟩
    · exact h
theorem Fine.upTo {s : St} (h : Fine s) (a : Nat) : ∀ n, Fine (upTo s a n)
  | 0 => h
  | n + 1 => (Fine.upTo h a n).step _
theorem Fine.down {s : St} (h : Fine s) (k : Int) : Fine (downS k s) := by
  refine h.map_ _ _ _ ?_ (fun j => ⟨rfl, rfl⟩) (downJ_ok k) (fun n => ⟨rfl, rfl⟩) (downN_ok k)
  split
  · omega
  · exact h.rev
theorem emp_list : ByteArray.empty.toList.isEmpty = true := by decide +kernel
theorem emp_of {b : ByteArray} (h : b.toList.isEmpty = true) : b = ByteArray.empty := by
  have h1 : b.toList = [] := List.isEmpty_iff.1 h
  rw [ByteArray.toList_eq] at h1
  exact ByteArray.ext (Array.toList_inj.1 (by rw [h1]; rfl))
theorem fits3 (s : St) : fitsB s 3 = true := by
  unfold fitsB fitR
  simp only [Bool.and_eq_true, List.all_eq_true]
  refine ⟨⟨by simp, fun x _ => ?_⟩, fun x _ => ?_⟩
  · unfold fitJ; simp
  · unfold fitN; simp
theorem fits2_iff (s : St) : fitsB s 2 = true ↔ s.rev = 0 ∧ ∀ j ∈ s.jobs, j.tag = ByteArray.empty := by
  unfold fitsB fitR
  simp only [Bool.and_eq_true, List.all_eq_true]
  constructor
  · intro ⟨⟨h1, h2⟩, _⟩
    refine ⟨by simpa using h1, fun j hj => ?_⟩
    have := h2 j hj
    unfold fitJ at this
    simp at this
    exact emp_of (by simpa using this)
  · intro ⟨h1, h2⟩
    refine ⟨⟨by simp [h1], fun j hj => ?_⟩, fun n hn => ?_⟩
    · unfold fitJ; rw [h2 j hj, emp_list]; simp
    · unfold fitN; simp
theorem fits1_iff (s : St) : fitsB s 1 = true ↔ s.rev = 0 ∧ (∀ j ∈ s.jobs, j.tag = ByteArray.empty ∧ j.tries = 0) ∧ ∀ n ∈ s.nodes, n.zone = ByteArray.empty := by
  unfold fitsB fitR
  simp only [Bool.and_eq_true, List.all_eq_true]
  constructor
  · intro ⟨⟨h1, h2⟩, h3⟩
    refine ⟨by simpa using h1, fun j hj => ?_, fun n hn => ?_⟩
    · have := h2 j hj
      unfold fitJ at this
      rw [Bool.and_eq_true] at this
      obtain ⟨a, b⟩ := this
      exact ⟨emp_of (by simpa using a), by simpa using b⟩
    · have := h3 n hn
      unfold fitN at this
      exact emp_of (by simpa using this)
  · intro ⟨h1, h2, h3⟩
    refine ⟨⟨by simp [h1], fun j hj => ?_⟩, fun n hn => ?_⟩
    · unfold fitJ; rw [(h2 j hj).1, (h2 j hj).2, emp_list]; decide
    · unfold fitN; rw [h3 n hn, emp_list]; decide
theorem fits_step {s : St} {k : Nat} (h : fitsB s (k : Int) = true) (h1 : 1 ≤ k) (h3 : k ≤ 2) : fitsB (stepS s (k + 1)) ((k : Int) + 1) = true := by
  obtain rfl | rfl : k = 1 ∨ k = 2 := by omega
  · obtain ⟨a, b, c⟩ := (fits1_iff s).1 h
    refine (fits2_iff _).2 ⟨a, fun j hj => ?_⟩
    obtain ⟨y, hy, rfl⟩ := List.mem_map.1 (show j ∈ s.jobs.map (triesJ s.leases) from hj)
    exact (b y hy).1
  · exact fits3 _
theorem upTo_succ (s : St) (a : Nat) : ∀ n, upTo s a (n + 1) = upTo (stepS s (a + 1)) (a + 1) n
  | 0 => rfl
  | n + 1 => by
    show stepS (upTo s a (n + 1)) (a + (n + 1) + 1) = stepS (upTo (stepS s (a + 1)) (a + 1) n) (a + 1 + n + 1)
    rw [upTo_succ s a n, show a + (n + 1) + 1 = a + 1 + n + 1 by omega]
theorem upTo_add (s : St) (a : Nat) : ∀ m n, upTo s a (m + n) = upTo (upTo s a m) (a + m) n
  | m, 0 => rfl
  | m, n + 1 => by
    show stepS (upTo s a (m + n)) (a + (m + n) + 1) = stepS (upTo (upTo s a m) (a + m) n) (a + m + n + 1)
    rw [upTo_add s a m n, show a + (m + n) + 1 = a + m + n + 1 by omega]
theorem fits_upTo {s : St} (a : Nat) : ∀ n, fitsB s (a : Int) = true → 1 ≤ a → a + n ≤ 3 → fitsB (upTo s a n) ((a : Int) + n) = true
  | 0, h, _, _ => by simpa [upTo] using h
  | n + 1, h, h1, h3 => by
    have := fits_step (k := a + n) (by simpa using fits_upTo a n h h1 (by omega)) (by omega) (by omega)
    show fitsB (stepS (upTo s a n) (a + n + 1)) _ = true
    rw [show ((a : Int) + ((n + 1 : Nat) : Int)) = ((a + n : Nat) : Int) + 1 by omega]
    exact this
theorem fits_down (s : St) {k : Int} (h1 : 1 ≤ k) (h3 : k ≤ 3) : fitsB (downS k s) k = true := by
  obtain rfl | rfl | rfl : k = 1 ∨ k = 2 ∨ k = 3 := by omega
  · refine (fits1_iff _).2 ⟨rfl, fun j hj => ?_, fun n hn => ?_⟩
    · obtain ⟨y, hy, rfl⟩ := List.mem_map.1 (show j ∈ s.jobs.map (downJ 1) from hj)
      exact ⟨rfl, rfl⟩
    · obtain ⟨y, hy, rfl⟩ := List.mem_map.1 (show n ∈ s.nodes.map (downN 1) from hn)
      rfl
  · refine (fits2_iff _).2 ⟨rfl, fun j hj => ?_⟩
    obtain ⟨y, hy, rfl⟩ := List.mem_map.1 (show j ∈ s.jobs.map (downJ 2) from hj)
    rfl
  · exact fits3 _
theorem down_id {s : St} {k : Int} (h : fitsB s k = true) (h1 : 1 ≤ k) (h3 : k ≤ 3) : downS k s = s := by
  obtain ⟨r, js, ns, ls⟩ := s
  obtain rfl | rfl | rfl : k = 1 ∨ k = 2 ∨ k = 3 := by omega
  · obtain ⟨a, b, c⟩ := (fits1_iff _).1 h
    simp only at a b c
    unfold downS mapS
    have e1 : js.map (downJ 1) = js := (List.map_congr_left fun j hj => by
      obtain ⟨n, p, q, t, g⟩ := j
      have := b _ hj
      simp only at this
      simp [downJ, this]).trans (List.map_id js)
    have e2 : ns.map (downN 1) = ns := (List.map_congr_left fun j hj => by
      obtain ⟨n, p, z⟩ := j
      have := c _ hj
      simp only at this
      simp [downN, this]).trans (List.map_id ns)
    simp [e1, e2, a]
  · obtain ⟨a, b⟩ := (fits2_iff _).1 h
    simp only at a b
    unfold downS mapS
    have e1 : js.map (downJ 2) = js := (List.map_congr_left fun j hj => by
      obtain ⟨n, p, q, t, g⟩ := j
      have := b _ hj
      simp only at this
      simp [downJ, this]).trans (List.map_id js)
    have e2 : ns.map (downN 2) = ns := (List.map_congr_left fun j hj => by
      obtain ⟨n, p, z⟩ := j
      simp [downN]).trans (List.map_id ns)
    simp [e1, e2, a]
  · unfold downS mapS
    have e1 : js.map (downJ 3) = js := (List.map_congr_left fun j hj => by
      obtain ⟨n, p, q, t, g⟩ := j
      simp [downJ]).trans (List.map_id js)
    have e2 : ns.map (downN 3) = ns := (List.map_congr_left fun j hj => by
      obtain ⟨n, p, z⟩ := j
      simp [downN]).trans (List.map_id ns)
    simp [e1, e2]
theorem down_step {s : St} {k : Nat} (h1 : 1 ≤ k) (h3 : k ≤ 2) (hf : fitsB s (k : Int) = true) : downS (k : Int) (stepS s (k + 1)) = s := by
  rw [← down_id hf (by omega) (by omega)]
  obtain ⟨r, js, ns, ls⟩ := s
  obtain rfl | rfl : k = 1 ∨ k = 2 := by omega
  · simp [downS, stepS, mapS, List.map_map, Function.comp_def, downJ, downN, triesJ, zoneN]
  · have hn : ∀ l : List NodeD, l.map (downN 2) = l := fun l => (List.map_congr_left fun n _ => by obtain ⟨a, b, z⟩ := n; simp [downN]).trans (List.map_id l)
    simp [downS, stepS, mapS, downJ, hn]
theorem down_down (s : St) (i k : Int) (h : i ≤ k) : downS i (downS k s) = downS i s := by
  obtain ⟨r, js, ns, ls⟩ := s
  unfold downS mapS
  simp only [List.map_map]
  have e0 : (if decide (i < 3) = true then (0 : Int) else if decide (k < 3) = true then 0 else r) = if decide (i < 3) = true then 0 else r := by
    by_cases h1 : i < 3
    · simp [h1]
    · simp [h1, show ¬ k < 3 by omega]
  have e1 : downJ i ∘ downJ k = downJ i := by
    funext j
    obtain ⟨n, p, q, t, g⟩ := j
    simp only [Function.comp_apply, downJ]
    by_cases h1 : i < 3
    · by_cases h2 : i < 2
      · simp [h1, h2]
      · simp [h1, h2, show ¬ k < 2 by omega]
    · simp [show ¬ i < 2 by omega, h1, show ¬ k < 2 by omega, show ¬ k < 3 by omega]
  have e2 : downN i ∘ downN k = downN i := by
    funext j
    obtain ⟨n, p, z⟩ := j
    simp only [Function.comp_apply, downN]
    by_cases h2 : i < 2
    · simp [h2]
    · simp [h2, show ¬ k < 2 by omega]
  rw [e0, e1, e2]
theorem down_upTo {s : St} (a : Nat) : ∀ n, fitsB s (a : Int) = true → 1 ≤ a → a + n ≤ 3 → downS (a : Int) (upTo s a n) = s
  | 0, h, h1, h3 => down_id h (by omega) (by omega)
  | n + 1, h, h1, h3 => by
    have hf := fits_upTo a n h h1 (by omega)
    have := down_step (s := upTo s a n) (k := a + n) (by omega) (by omega) (by simpa using hf)
    have hd := down_down (stepS (upTo s a n) (a + n + 1)) (a : Int) ((a + n : Nat) : Int) (by omega)
    show downS (a : Int) (stepS (upTo s a n) (a + n + 1)) = s
    rw [← hd, this]
    exact down_upTo a n h h1 (by omega)
/-- What State answers. -/
def upR (s : St) (a b : Int) : St × Nat :=
  if decide (1 ≤ a ∧ a ≤ b ∧ b ≤ 3) = false then (⟨0, [], [], []⟩, 1) else if (fitsR s a).2 ≠ 0 then (⟨0, [], [], []⟩, (fitsR s a).2) else if (fitsR s a).1 = false then (⟨0, [], [], []⟩, 4) else (upTo s a.toNat (b - a).toNat, 0)
def upLast (s : St) (k : Int) : St := upTo (downS k s) k.toNat (3 - k).toNat
/-- What Down answers. -/
def downB (s : St) (k : Int) : Bool := decide ((upLast s k).rev = s.rev) && (decide ((upLast s k).jobs = s.jobs) && decide ((upLast s k).nodes = s.nodes))
def downR (s : St) (k : Int) : St × Bool × Nat :=
  if checkE s ≠ 0 then (⟨0, [], [], []⟩, false, checkE s) else if withinB k 1 3 = false then (⟨0, [], [], []⟩, false, 1) else (downS k s, downB s k, 0)
theorem upTo_leases (s : St) (a : Nat) : ∀ n, (upTo s a n).leases = s.leases
  | 0 => rfl
  | n + 1 => by
    rw [← upTo_leases s a n]
    show (stepS (upTo s a n) (a + n + 1)).leases = _
    unfold stepS
    split
    · rfl
    · split <;> rfl
theorem downB_iff {s : St} {k : Int} : downB s k = decide (upLast s k = s) := by
  rw [Bool.eq_iff_iff, decide_eq_true_iff]
  unfold downB
  simp only [Bool.and_eq_true, decide_eq_true_iff]
  have hl : (upLast s k).leases = s.leases := upTo_leases _ _ _
  constructor
  · intro ⟨h1, h2, h3⟩
    generalize upLast s k = u at *
    obtain ⟨r, js, ns, ls⟩ := s
    obtain ⟨r', js', ns', ls'⟩ := u
    simp only at h1 h2 h3 hl
    subst h1 h2 h3 hl
    rfl
  · intro h
    rw [h]
    exact ⟨rfl, rfl, rfl⟩
theorem upTo_names (s : St) (a : Nat) : ∀ n, (upTo s a n).jobs.map (fun j => (j.name, j.prio, j.need)) = s.jobs.map (fun j => (j.name, j.prio, j.need)) ∧ (upTo s a n).nodes.length = s.nodes.length
  | 0 => ⟨rfl, rfl⟩
  | n + 1 => by
    obtain ⟨h1, h2⟩ := upTo_names s a n
    rw [← h1, ← h2]
    show (stepS (upTo s a n) (a + n + 1)).jobs.map _ = _ ∧ (stepS (upTo s a n) (a + n + 1)).nodes.length = _
    unfold stepS
    split
    · exact ⟨by simp [mapS, List.map_map, Function.comp_def, triesJ], by simp [mapS]⟩
    · split <;> exact ⟨rfl, rfl⟩
end Go.Proofs.YtejdhcipmkaboaaDoor

/-
  Plain laws of State and Down, as they answer.
-/
set_option linter.unusedVariables false
set_option linter.unusedSimpArgs false
namespace Go.Proofs.YtejdhcipmkaboaaDoor
theorem fitsR_in (s : St) (a : Int) (h : 1 ≤ a ∧ a ≤ 3) : fitsR s a = if checkE s ≠ 0 then (false, checkE s) else (fitsB s a, 0) := by
  unfold fitsR
  rw [withinB_iff.2 h, if_pos rfl]
theorem upR_way (s : St) {a b : Int} (h : 1 ≤ a ∧ a ≤ b ∧ b ≤ 3) : upR s a b = if checkE s ≠ 0 then (⟨0, [], [], []⟩, checkE s) else if fitsB s a = false then (⟨0, [], [], []⟩, 4) else (upTo s a.toNat (b - a).toNat, 0) := by
  unfold upR
  rw [decide_eq_true h, if_neg (by simp), fitsR_in s a ⟨h.1, by omega⟩]
  by_cases hc : checkE s = 0
  · simp [hc]
  · simp [hc]
theorem upR_of {s : St} {a b : Int} (h : 1 ≤ a ∧ a ≤ b ∧ b ≤ 3) (hF : Fine s) (hf : fitsB s a = true) : upR s a b = (upTo s a.toNat (b - a).toNat, 0) := by
  rw [upR_way s h, if_neg (by rw [(fine_iff s).2 hF]; simp), if_neg (by rw [hf]; simp)]
theorem upR_ok {s : St} {a b : Int} (h : (upR s a b).2 = 0) : (1 ≤ a ∧ a ≤ b ∧ b ≤ 3) ∧ Fine s ∧ fitsB s a = true ∧ upR s a b = (upTo s a.toNat (b - a).toNat, 0) := by
  by_cases hw : 1 ≤ a ∧ a ≤ b ∧ b ≤ 3
  · rw [upR_way s hw] at h ⊢
    by_cases hc : checkE s = 0
    · rw [if_neg (by rw [hc]; simp)] at h ⊢
      cases hf : fitsB s a
      · rw [hf, if_pos rfl] at h; cases h
      · exact ⟨hw, (fine_iff s).1 hc, rfl, by rw [if_neg (by simp)]⟩
    · rw [if_pos hc] at h; exact absurd h hc
  · unfold upR at h
    rw [decide_eq_false hw, if_pos rfl] at h
    cases h
theorem upR_bad {s : St} {a b : Int} (h : (upR s a b).2 ≠ 0) : (upR s a b).1 = ⟨0, [], [], []⟩ := by
  by_cases hw : 1 ≤ a ∧ a ≤ b ∧ b ≤ 3
  · rw [upR_way s hw] at h ⊢
    by_cases hc : checkE s = 0
    · rw [if_neg (by rw [hc]; simp)] at h ⊢
      cases hf : fitsB s a
      · rw [if_pos rfl]
      · rw [hf, if_neg (by simp)] at h; exact absurd rfl h
    · rw [if_pos hc]
  · unfold upR
    rw [decide_eq_false hw, if_pos rfl]
theorem upR_err (s : St) {a b c : Int} (h : 1 ≤ a ∧ a ≤ b ∧ b ≤ 3) (h2 : 1 ≤ a ∧ a ≤ c ∧ c ≤ 3) : (upR s a b).2 = (upR s a c).2 := by
  rw [upR_way s h, upR_way s h2]
  split
  · rfl
  · split <;> rfl
theorem downR_of {s : St} {k : Int} (hF : Fine s) (h : 1 ≤ k ∧ k ≤ 3) : downR s k = (downS k s, downB s k, 0) := by
  unfold downR
  rw [if_neg (by rw [(fine_iff s).2 hF]; simp), if_neg (by rw [withinB_iff.2 h]; simp)]
theorem downR_ok {s : St} {k : Int} (h : (downR s k).2.2 = 0) : Fine s ∧ (1 ≤ k ∧ k ≤ 3) ∧ downR s k = (downS k s, downB s k, 0) := by
  unfold downR at h
  by_cases hc : checkE s = 0
  · rw [if_neg (by rw [hc]; simp)] at h
    cases hw : withinB k 1 3
    · rw [hw, if_pos rfl] at h; cases h
    · exact ⟨(fine_iff s).1 hc, withinB_iff.1 hw, downR_of ((fine_iff s).1 hc) (withinB_iff.1 hw)⟩
  · rw [if_pos hc] at h; exact absurd h hc
theorem downR_bad {s : St} {k : Int} (h : (downR s k).2.2 ≠ 0) : (downR s k).1 = ⟨0, [], [], []⟩ ∧ (downR s k).2.1 = false := by
  unfold downR at h ⊢
  split
  · exact ⟨rfl, rfl⟩
  · rename_i hc
    rw [if_neg hc] at h
    split
    · exact ⟨rfl, rfl⟩
    · rename_i hw; rw [if_neg hw] at h; exact absurd rfl h
end Go.Proofs.YtejdhcipmkaboaaDoor

/-
  Plain: where the first is of which something holds.
-/
set_option linter.unusedVariables false
set_option linter.unusedSimpArgs false
namespace Go.Proofs.YtejdhcipmkaboaaDoor
open Go.RowKit
def pIx {α : Type} (f : α → Bool) : List α → Nat → Int
  | [], _ => -1
  | x :: r, i => if f x = true then (i : Int) else pIx f r (i + 1)
theorem pIx_cons {α : Type} (f : α → Bool) (x : α) (r : List α) (i : Nat) : pIx f (x :: r) i = if f x = true then (i : Int) else pIx f r (i + 1) := rfl
theorem pIx_any {α : Type} (f : α → Bool) : ∀ (l : List α) (i : Nat), decide (0 ≤ pIx f l i) = l.any f
  | [], _ => rfl
  | x :: r, i => by
    rw [pIx_cons, List.any_cons]
    cases h : f x
    · rw [if_neg (by simp), pIx_any f r (i + 1)]; simp
    · rw [if_pos rfl]; simp
theorem pIx_bd {α : Type} (f : α → Bool) : ∀ (l : List α) (i : Nat), -1 ≤ pIx f l i ∧ pIx f l i < i + l.length + 1
  | [], i => by simp [pIx]; omega
  | x :: r, i => by
    have := pIx_bd f r (i + 1)
    rw [pIx_cons, List.length_cons]
    split <;> omega
/-- A function value that answers f of a row, and makes new memory at most. -/
structure FnOk {α : Type} (P : Program) (w : World) (K : FuncId) (caps : Array Value) (row : α → List Value) (f : α → Bool) (l : List α) : Prop where
  enter : ∀ (args : Array Value) (W : World), (callFunc K args).run P W = .ok (.enter K args) W
  calls : ∀ x ∈ l, ∀ W, Below w.heap.size w W → Calls P K (#[.agg (row x).toArray] ++ caps) W fun e W' => e = .returned (.bool (f x)) ∧ Below W.heap.size W W'
end Go.Proofs.YtejdhcipmkaboaaDoor

/-
  Contracts of slices.IndexFunc and slices.ContainsFunc at leases, for whatever function is handed in.
-/
set_option linter.unusedVariables false
set_option linter.unusedSimpArgs false
namespace Go.Proofs.YtejdhcipmkaboaaDoor
open Go.RowKit
set_option maxHeartbeats 2000000 in
set_option maxRecDepth 100000 in
theorem indexFL_any (K : FuncId) (caps : Array Value) (f : LeaseD → Bool) (p : Option Addr) (c : Nat) (l : List LeaseD) (w : World) (hel : Elts w w.heap.size 3 p (l.map rowL)) (hl : l.length ≤ 4611686018427387904) (hf : FnOk Tryd.prog w K caps rowL f l) :
    Calls Tryd.prog 96 #[.slice p l.length c, .func (.func K) #[] caps] w fun e w' => e = .returned (.int .i64 (pIx f l 0)) ∧ Below w.heap.size w w' := by
  have HF := Lib.hid hf.calls
  have hen := hf.enter
  clear hf
  go_enter Tryd.func96, Tryd.ntmps96
  go_wp2_with fail
  go_loopw [8] (fun i wr => ∃ k : Nat, k ≤ l.length ∧ i = .int .i64 k ∧ Below w.heap.size w wr ∧ Hid (pIx f l 0 = pIx f (l.drop k) k)) (fun i _ => l.length - (intOf i).toNat)
  case atStart => exact ⟨0, Nat.zero_le _, rfl, Below.refl _ _, (show _ = _ from rfl)⟩
  case round =>
    obtain ⟨k, hk, rfl, hbr, HR⟩ := hrel
    by_cases hlt : k < l.length
    · have hx : l[k]? = some l[k] := List.getElem?_eq_getElem hlt
      have hc := HF.out l[k] (List.getElem_mem hlt) wr hbr
      have hdr := dropAt l k _ hx
      generalize l[k] = x at *
      obtain ⟨a, rfl, hab, _, hat⟩ := (hel.below hbr).at_ (k := k) (r := rowL x) (by rw [List.getElem?_map, hx]; rfl)
      have HR0 := HR.out
      rw [hdr, pIx_cons] at HR0
      cases hp : f x
      · rw [hp] at hc HR0
        rw [if_neg (by simp)] at HR0
        have HC := Lib.hid hc
        have HR1 := Lib.hid HR0
        clear hc HR0 HR hdr hx hp
        go_wp2_with (refine wpList_load_at rfl _ _ rfl (a.add (k * 3)) rfl [Value.string x.job, Value.string x.node, Value.int .i64 x.till] _ hat Tryd.underlying47 rfl lease_size ?_)
        refine HC.out.mono ?_
        rintro e w1 ⟨rfl, hb1⟩
        have hB := hbr.trans (hb1.mono hbr.size)
        clear hb1 hat
        go_wp2_with fail
        go_roundw
        case rel => exact ⟨k + 1, by omega, by go_num, hB, HR1.out⟩
        case measure => simp [intOf]; omega
      · rw [hp] at hc HR0
        rw [if_pos rfl] at HR0
        have HC := Lib.hid hc
        have HR1 := Lib.hid HR0
        clear hc HR0 HR hdr hx hp
        go_wp2_with (refine wpList_load_at rfl _ _ rfl (a.add (k * 3)) rfl [Value.string x.job, Value.string x.node, Value.int .i64 x.till] _ hat Tryd.underlying47 rfl lease_size ?_)
        refine HC.out.mono ?_
        rintro e w1 ⟨rfl, hb1⟩
        have hB := hbr.trans (hb1.mono hbr.size)
        clear hb1 hat
        go_wp2_with fail
        go_ret
        exact ⟨by rw [HR1.out]; rfl, hB⟩
    · obtain rfl : k = l.length := by omega
      have HR0 := HR.out
      rw [List.drop_length] at HR0
      have HR1 := Lib.hid HR0
      clear HR0 HR
      go_wp2_with fail
      go_ret
      exact ⟨by rw [HR1.out]; rfl, hbr⟩
set_option maxHeartbeats 1000000 in
set_option maxRecDepth 100000 in
theorem containsFL_any (K : FuncId) (caps : Array Value) (f : LeaseD → Bool) (p : Option Addr) (c : Nat) (l : List LeaseD) (w : World) (hel : Elts w w.heap.size 3 p (l.map rowL)) (hl : l.length ≤ 4611686018427387904) (hf : FnOk Tryd.prog w K caps rowL f l) :
    Calls Tryd.prog 91 #[.slice p l.length c, .func (.func K) #[] caps] w fun e w' => e = .returned (.bool (l.any f)) ∧ Below w.heap.size w w' := by
  have hc := indexFL_any K caps f p c l w hel hl hf
  have ha := pIx_any f l 0
  have hbd := pIx_bd f l 0
  generalize pIx f l 0 = n at *
  have HC := Lib.hid hc
  have HA := Lib.hid ha
  clear hc ha hf hel
  go_enter Tryd.func91, Tryd.ntmps91
  go_wp2_with fail
  refine HC.out.mono ?_
  rintro e w1 ⟨rfl, hb1⟩
  go_wp2_with fail
  go_ret
  exact ⟨by rw [← HA.out]; rfl, hb1⟩
end Go.Proofs.YtejdhcipmkaboaaDoor

/-
  Contracts of slices.Clone at jobs, nodes, leases.
-/
set_option linter.unusedVariables false
set_option linter.unusedSimpArgs false
namespace Go.Proofs.YtejdhcipmkaboaaDoor
open Go.RowKit
def ClonePost (w : World) (E : TypeId) (size n : Nat) (rows : List (List Value)) (e : Ending) (w' : World) : Prop :=
  ∃ q c, e = .returned (.slice q n c) ∧ Own w' w.heap.size E size q c rows ∧ Below w.heap.size w w'
set_option maxHeartbeats 1000000 in
set_option maxRecDepth 100000 in
theorem cloneJ_any (p : Option Addr) (c : Nat) (l : List JobD) (w : World) (hel : Elts w w.heap.size 5 p (l.map rowJ)) (hl : l.length ≤ 1099511627776) :
    Calls Tryd.prog 83 #[.slice p l.length c] w fun e w' => ClonePost w 49 5 l.length (l.map rowJ) e w' := by
  have hq := fun W : World => Lib.run_eql_slice_nil (P := Tryd.prog) W 22 49 p l.length c 0 0 Tryd.underlying22
  rcases p with _ | ad
  · obtain rfl : l = [] := by
      rcases l with _ | ⟨x, r⟩
      · rfl
      · obtain ⟨a, h, _⟩ := hel.2 (by simp)
        cases h
    have hq2 : ∀ W : World, (binOp .eql 22 (.slice none 0 c) (.slice none 0 0)).run Tryd.prog W = .ok (.bool true) W := hq
    clear hq hel
    go_enter Tryd.func83, Tryd.ntmps83
    go_wp2_with fail
    go_ret
    exact ⟨none, 0, rfl, Own.nil_ _ _ _ _ _, Below.refl _ _⟩
  · have hq2 : ∀ W : World, (binOp .eql 22 (.slice (some ad) l.length c) (.slice none 0 0)).run Tryd.prog W = .ok (.bool false) W := hq
    obtain ⟨i0, hi, hz0, hz1, hz2⟩ := info_parts job_infoC
    have hb0 : Below w.heap.size w (w.alloc (.cells #[] 49)) := (Below.refl _ _).alloc (Nat.le_refl _) _
    have hrd := (hel.below hb0).reads
    have hs := hel.1
    rw [List.length_map] at hrd
    have h1 := rowsJ_one l
    have hlen : (l.map rowJ).length = l.length := List.length_map _
    generalize (l.map rowJ) = rows at *
    have HL := Lib.hid hlen
    have hml : 0 + l.length ≤ maxLen := by unfold maxLen; omega
    have hby : (0 + l.length) * 56 ≤ 140737488355328 := by omega
    have hown0 : (w.alloc (.cells #[] 49)).ownsRow w.heap.size 49 5 (.slice (some ⟨w.heap.size, 0, none⟩) 0 0) 0 [] := ⟨rfl, .inr ⟨w.heap.size, 0, #[], rfl, Nat.le_refl _, heap_alloc_new w _, Nat.le_refl _, by decide, rfl, rfl⟩⟩
    clear hlen hel hq
    go_enter Tryd.func83, Tryd.ntmps83
    go_wp2_with (at_builtin; refine wpList_append_any _ rfl _ _ 22 rfl w.heap.size 49 i0 _ 5 56 Tryd.underlying22 hi hz0 hz1 hz2 rfl (by decide) _ 0 [] rfl hown0 w.heap.size (some ad) l.length c rows.flatten rfl hrd h1 hml hby hb0.size ?_)
    intro v' w' hown hg _
    have hB : Below w.heap.size w w' := hb0.grown hg hb0.size (fun k hk => by have h0 : some w.heap.size = some k := hk; injection h0 with h0; omega)
    (try simp only [Nat.zero_add, List.nil_append] at hown)
    have hfm : ∃ q c', v' = .slice q l.length c' := by
      rcases hown.2 with ⟨rfl, h0⟩ | ⟨g, cap, cur, rfl, _⟩
      · exact ⟨none, 0, by rw [h0]⟩
      · exact ⟨_, cap, rfl⟩
    obtain ⟨q, c', rfl⟩ := hfm
    have HO := Lib.hid hown
    clear hown hown0 hg hi hz0 hz1 hz2 hrd h1 hml hby hq2
    go_wp2_with fail
    go_ret
    exact ⟨q, c', rfl, Own.of ⟨hs, by rw [HL.out]; exact HO.out⟩, hB⟩
set_option maxHeartbeats 1000000 in
set_option maxRecDepth 100000 in
theorem cloneN_any (p : Option Addr) (c : Nat) (l : List NodeD) (w : World) (hel : Elts w w.heap.size 3 p (l.map rowN)) (hl : l.length ≤ 1099511627776) :
    Calls Tryd.prog 84 #[.slice p l.length c] w fun e w' => ClonePost w 68 3 l.length (l.map rowN) e w' := by
  have hq := fun W : World => Lib.run_eql_slice_nil (P := Tryd.prog) W 23 68 p l.length c 0 0 Tryd.underlying23
  rcases p with _ | ad
  · obtain rfl : l = [] := by
      rcases l with _ | ⟨x, r⟩
      · rfl
      · obtain ⟨a, h, _⟩ := hel.2 (by simp)
        cases h
    have hq2 : ∀ W : World, (binOp .eql 23 (.slice none 0 c) (.slice none 0 0)).run Tryd.prog W = .ok (.bool true) W := hq
    clear hq hel
    go_enter Tryd.func84, Tryd.ntmps84
    go_wp2_with fail
    go_ret
    exact ⟨none, 0, rfl, Own.nil_ _ _ _ _ _, Below.refl _ _⟩
  · have hq2 : ∀ W : World, (binOp .eql 23 (.slice (some ad) l.length c) (.slice none 0 0)).run Tryd.prog W = .ok (.bool false) W := hq
    obtain ⟨i0, hi, hz0, hz1, hz2⟩ := info_parts node_infoC
    have hb0 : Below w.heap.size w (w.alloc (.cells #[] 68)) := (Below.refl _ _).alloc (Nat.le_refl _) _
    have hrd := (hel.below hb0).reads
    have hs := hel.1
    rw [List.length_map] at hrd
    have h1 := rowsN_one l
    have hlen : (l.map rowN).length = l.length := List.length_map _
    generalize (l.map rowN) = rows at *
    have HL := Lib.hid hlen
    have hml : 0 + l.length ≤ maxLen := by unfold maxLen; omega
    have hby : (0 + l.length) * 40 ≤ 140737488355328 := by omega
    have hown0 : (w.alloc (.cells #[] 68)).ownsRow w.heap.size 68 3 (.slice (some ⟨w.heap.size, 0, none⟩) 0 0) 0 [] := ⟨rfl, .inr ⟨w.heap.size, 0, #[], rfl, Nat.le_refl _, heap_alloc_new w _, Nat.le_refl _, by decide, rfl, rfl⟩⟩
    clear hlen hel hq
    go_enter Tryd.func84, Tryd.ntmps84
    go_wp2_with (at_builtin; refine wpList_append_any _ rfl _ _ 23 rfl w.heap.size 68 i0 _ 3 40 Tryd.underlying23 hi hz0 hz1 hz2 rfl (by decide) _ 0 [] rfl hown0 w.heap.size (some ad) l.length c rows.flatten rfl hrd h1 hml hby hb0.size ?_)
    intro v' w' hown hg _
    have hB : Below w.heap.size w w' := hb0.grown hg hb0.size (fun k hk => by have h0 : some w.heap.size = some k := hk; injection h0 with h0; omega)
    (try simp only [Nat.zero_add, List.nil_append] at hown)
    have hfm : ∃ q c', v' = .slice q l.length c' := by
      rcases hown.2 with ⟨rfl, h0⟩ | ⟨g, cap, cur, rfl, _⟩
      · exact ⟨none, 0, by rw [h0]⟩
      · exact ⟨_, cap, rfl⟩
    obtain ⟨q, c', rfl⟩ := hfm
    have HO := Lib.hid hown
    clear hown hown0 hg hi hz0 hz1 hz2 hrd h1 hml hby hq2
    go_wp2_with fail
    go_ret
    exact ⟨q, c', rfl, Own.of ⟨hs, by rw [HL.out]; exact HO.out⟩, hB⟩
set_option maxHeartbeats 1000000 in
set_option maxRecDepth 100000 in
theorem cloneL_any (p : Option Addr) (c : Nat) (l : List LeaseD) (w : World) (hel : Elts w w.heap.size 3 p (l.map rowL)) (hl : l.length ≤ 1099511627776) :
    Calls Tryd.prog 85 #[.slice p l.length c] w fun e w' => ClonePost w 47 3 l.length (l.map rowL) e w' := by
  have hq := fun W : World => Lib.run_eql_slice_nil (P := Tryd.prog) W 24 47 p l.length c 0 0 Tryd.underlying24
  rcases p with _ | ad
  · obtain rfl : l = [] := by
      rcases l with _ | ⟨x, r⟩
      · rfl
      · obtain ⟨a, h, _⟩ := hel.2 (by simp)
        cases h
    have hq2 : ∀ W : World, (binOp .eql 24 (.slice none 0 c) (.slice none 0 0)).run Tryd.prog W = .ok (.bool true) W := hq
    clear hq hel
    go_enter Tryd.func85, Tryd.ntmps85
    go_wp2_with fail
    go_ret
    exact ⟨none, 0, rfl, Own.nil_ _ _ _ _ _, Below.refl _ _⟩
  · have hq2 : ∀ W : World, (binOp .eql 24 (.slice (some ad) l.length c) (.slice none 0 0)).run Tryd.prog W = .ok (.bool false) W := hq
    obtain ⟨i0, hi, hz0, hz1, hz2⟩ := info_parts lease_infoC
    have hb0 : Below w.heap.size w (w.alloc (.cells #[] 47)) := (Below.refl _ _).alloc (Nat.le_refl _) _
    have hrd := (hel.below hb0).reads
    have hs := hel.1
    rw [List.length_map] at hrd
    have h1 := rowsL_one l
    have hlen : (l.map rowL).length = l.length := List.length_map _
    generalize (l.map rowL) = rows at *
    have HL := Lib.hid hlen
    have hml : 0 + l.length ≤ maxLen := by unfold maxLen; omega
    have hby : (0 + l.length) * 40 ≤ 140737488355328 := by omega
    have hown0 : (w.alloc (.cells #[] 47)).ownsRow w.heap.size 47 3 (.slice (some ⟨w.heap.size, 0, none⟩) 0 0) 0 [] := ⟨rfl, .inr ⟨w.heap.size, 0, #[], rfl, Nat.le_refl _, heap_alloc_new w _, Nat.le_refl _, by decide, rfl, rfl⟩⟩
    clear hlen hel hq
    go_enter Tryd.func85, Tryd.ntmps85
    go_wp2_with (at_builtin; refine wpList_append_any _ rfl _ _ 24 rfl w.heap.size 47 i0 _ 3 40 Tryd.underlying24 hi hz0 hz1 hz2 rfl (by decide) _ 0 [] rfl hown0 w.heap.size (some ad) l.length c rows.flatten rfl hrd h1 hml hby hb0.size ?_)
    intro v' w' hown hg _
    have hB : Below w.heap.size w w' := hb0.grown hg hb0.size (fun k hk => by have h0 : some w.heap.size = some k := hk; injection h0 with h0; omega)
    (try simp only [Nat.zero_add, List.nil_append] at hown)
    have hfm : ∃ q c', v' = .slice q l.length c' := by
      rcases hown.2 with ⟨rfl, h0⟩ | ⟨g, cap, cur, rfl, _⟩
      · exact ⟨none, 0, by rw [h0]⟩
      · exact ⟨_, cap, rfl⟩
    obtain ⟨q, c', rfl⟩ := hfm
    have HO := Lib.hid hown
    clear hown hown0 hg hi hz0 hz1 hz2 hrd h1 hml hby hq2
    go_wp2_with fail
    go_ret
    exact ⟨q, c', rfl, Own.of ⟨hs, by rw [HL.out]; exact HO.out⟩, hB⟩
end Go.Proofs.YtejdhcipmkaboaaDoor

/-
  The contract of up.own: a state's rows copied.
-/
set_option linter.unusedVariables false
set_option linter.unusedSimpArgs false
namespace Go.Proofs.YtejdhcipmkaboaaDoor
open Go.RowKit
def OwnPost (w : World) (s : St) (e : Ending) (w' : World) : Prop :=
  ∃ q1 q2 q3 d1 d2 d3, e = .returned (.agg #[.int .i64 s.rev, .slice q1 s.jobs.length d1, .slice q2 s.nodes.length d2, .slice q3 s.leases.length d3]) ∧ StOwn w' w.heap.size q1 q2 q3 d1 d2 d3 s ∧ Below w.heap.size w w'
set_option maxHeartbeats 4000000 in
set_option maxRecDepth 100000 in
theorem upOwn_any (s : St) (p1 p2 p3 : Option Addr) (c1 c2 c3 : Nat) (w : World) (hm : StM w w.heap.size p1 p2 p3 s) (hj : s.jobs.length ≤ 1099511627776) (hn : s.nodes.length ≤ 1099511627776) (hl : s.leases.length ≤ 1099511627776) :
    Calls Tryd.prog 59 #[.agg #[.int .i64 s.rev, .slice p1 s.jobs.length c1, .slice p2 s.nodes.length c2, .slice p3 s.leases.length c3]] w fun e w' => OwnPost w s e w' := by
  have hzs := zero_state_lit
  have hb0 : Below w.heap.size w (w.alloc (.cells #[Value.int .i64 s.rev, Value.slice p1 s.jobs.length c1, Value.slice p2 s.nodes.length c2, Value.slice p3 s.leases.length c3] 26)) := (Below.refl _ _).alloc (Nat.le_refl _) _
  have bx := (Blk.new w 26 #[Value.int .i64 s.rev, Value.slice p1 s.jobs.length c1, Value.slice p2 s.nodes.length c2, Value.slice p3 s.leases.length c3]).alloc (.cells #[.int .i64 0, .slice none 0 0, .slice none 0 0, .slice none 0 0] 26)
  have bz := Blk.new (w.alloc (.cells #[Value.int .i64 s.rev, Value.slice p1 s.jobs.length c1, Value.slice p2 s.nodes.length c2, Value.slice p3 s.leases.length c3] 26)) 26 #[.int .i64 0, .slice none 0 0, .slice none 0 0, .slice none 0 0]
  rw [show (w.alloc (.cells #[Value.int .i64 s.rev, Value.slice p1 s.jobs.length c1, Value.slice p2 s.nodes.length c2, Value.slice p3 s.leases.length c3] 26)).heap.size = w.heap.size + 1 by simp] at bz
  have hB0 := hb0.alloc hb0.size (.cells #[.int .i64 0, .slice none 0 0, .slice none 0 0, .slice none 0 0] 26)
  have HJ := Lib.hid (fun (W : World) (hW : Below w.heap.size w W) => cloneJ_any p1 c1 s.jobs W ((hm.j.below hW).more hW.size) hj)
  have HN := Lib.hid (fun (W : World) (hW : Below w.heap.size w W) => cloneN_any p2 c2 s.nodes W ((hm.n.below hW).more hW.size) hn)
  have HL := Lib.hid (fun (W : World) (hW : Below w.heap.size w W) => cloneL_any p3 c3 s.leases W ((hm.l.below hW).more hW.size) hl)
  clear hm hj hn hl hb0
  go_enter Tryd.func59, Tryd.ntmps59
  go_wp2_with fail
  generalize (w.alloc (.cells #[Value.int .i64 s.rev, Value.slice p1 s.jobs.length c1, Value.slice p2 s.nodes.length c2, Value.slice p3 s.leases.length c3] 26)).alloc _ = w0 at *
  have hBd : Below w.heap.size w w0.drew := hB0.drew
  have bx0 := bx.drew
  have bz0 := bz.drew
  generalize hw0 : w0.drew = W0 at *
  have e1 : W0.cell? ⟨w.heap.size, 1, none⟩ = some (.slice p1 s.jobs.length c1) := bx0.cell 1
  have e2 : W0.cell? ⟨w.heap.size, 2, none⟩ = some (.slice p2 s.nodes.length c2) := bx0.cell 2
  have e3 : W0.cell? ⟨w.heap.size, 3, none⟩ = some (.slice p3 s.leases.length c3) := bx0.cell 3
  have hlt0 := bx0.lt
  have hltz := bz0.lt
  subst hw0
  go_region_law (first
    | (go_simp; go_at_call 83; refine (HJ.out _ hBd).mono ?_; rintro e w1 ⟨q1, d1, rfl, O1, hb1⟩; have hB1 := hBd.trans (hb1.mono hBd.size); have bx1 := bx0.below hb1 hlt0; have bz1 := bz0.below hb1 hltz; have hlt1 := bx1.lt; have hlz1 := bz1.lt; have a2 : w1.cell? ⟨w.heap.size, 2, none⟩ = some (.slice p2 s.nodes.length c2) := bx1.cell 2; have a3 : w1.cell? ⟨w.heap.size, 3, none⟩ = some (.slice p3 s.leases.length c3) := bx1.cell 3)
    | (go_simp; go_at_call 84; refine (HN.out _ hB1).mono ?_; rintro e w2 ⟨q2, d2, rfl, O2, hb2⟩; have hB2 := hB1.trans (hb2.mono hB1.size); have bx2 := bx1.below hb2 hlt1; have bz2 := bz1.below hb2 hlz1; have hlt2 := bx2.lt; have hlz2 := bz2.lt; have i3 : w2.cell? ⟨w.heap.size, 3, none⟩ = some (.slice p3 s.leases.length c3) := bx2.cell 3)
    | (go_simp; go_at_call 85; refine (HL.out _ hB2).mono ?_; rintro e w3 ⟨q3, d3, rfl, O3, hb3⟩; have hB3 := hB2.trans (hb3.mono hB2.size); have bx3 := bx2.below hb3 hlt2; have bz3 := bz2.below hb3 hlz2; have u1 : w3.cell? ⟨w.heap.size, 1, none⟩ = some (.slice p1 s.jobs.length c1) := bx3.cell 1; have u2 : w3.cell? ⟨w.heap.size, 2, none⟩ = some (.slice p2 s.nodes.length c2) := bx3.cell 2; have u3 : w3.cell? ⟨w.heap.size, 3, none⟩ = some (.slice p3 s.leases.length c3) := bx3.cell 3; have f1 := bx3.frozen 1; have f2 := bx3.frozen 2; have f3 := bx3.frozen 3))
  all_goals (
    have X1 := ((bx3.set_ 1 (.slice q1 s.jobs.length d1)).set_ 2 (.slice q2 s.nodes.length d2)).set_ 3 (.slice q3 s.leases.length d3)
    have X : Blk (((w3.setCell ⟨w.heap.size, 1, none⟩ (.slice q1 s.jobs.length d1)).setCell ⟨w.heap.size, 2, none⟩ (.slice q2 s.nodes.length d2)).setCell ⟨w.heap.size, 3, none⟩ (.slice q3 s.leases.length d3)) w.heap.size 26 #[Value.int .i64 s.rev, .slice q1 s.jobs.length d1, .slice q2 s.nodes.length d2, .slice q3 s.leases.length d3] := X1
    have hne : w.heap.size + 1 ≠ w.heap.size := by omega
    have Z := ((bz3.far (p := ⟨w.heap.size, 1, none⟩) hne (.slice q1 s.jobs.length d1)).far (p := ⟨w.heap.size, 2, none⟩) hne (.slice q2 s.nodes.length d2)).far (p := ⟨w.heap.size, 3, none⟩) hne (.slice q3 s.leases.length d3)
    have G1 := grow_cell w3 w.heap.size 1 (.slice q1 s.jobs.length d1)
    have G2 := grow_cell (w3.setCell ⟨w.heap.size, 1, none⟩ (.slice q1 s.jobs.length d1)) w.heap.size 2 (.slice q2 s.nodes.length d2)
    have G3 := grow_cell ((w3.setCell ⟨w.heap.size, 1, none⟩ (.slice q1 s.jobs.length d1)).setCell ⟨w.heap.size, 2, none⟩ (.slice q2 s.nodes.length d2)) w.heap.size 3 (.slice q3 s.leases.length d3)
    have hS3 : StOwn w3 w.heap.size q1 q2 q3 d1 d2 d3 s := ⟨((O1.below (B := 0) hb2).below (B := 0) hb3).less hBd.size, (O2.below (B := 0) hb3).less hB1.size, O3.less hB2.size⟩
    have b1 := bx3.set_ 1 (.slice q1 s.jobs.length d1)
    have b2 := b1.set_ 2 (.slice q2 s.nodes.length d2)
    have hS := ((hS3.other G1 bx3 (by decide) (by decide) (by decide)).other G2 b1 (by decide) (by decide) (by decide)).other G3 b2 (by decide) (by decide) (by decide)
    have hB : Below w.heap.size w (((w3.setCell ⟨w.heap.size, 1, none⟩ (.slice q1 s.jobs.length d1)).setCell ⟨w.heap.size, 2, none⟩ (.slice q2 s.nodes.length d2)).setCell ⟨w.heap.size, 3, none⟩ (.slice q3 s.leases.length d3)) :=
      ((hB3.setCell (p := ⟨w.heap.size, 1, none⟩) (Nat.le_refl _) _).setCell (p := ⟨w.heap.size, 2, none⟩) (Nat.le_refl _) _).setCell (p := ⟨w.heap.size, 3, none⟩) (Nat.le_refl _) _
    clear X1 G1 G2 G3 hS3 b1 b2 hB0 hB1 hB2 hB3 hBd hb1 hb2 hb3 O1 O2 O3 bx3 bz3 bx2 bz2 bx1 bz1 bx0 bz0 u1 u2 u3 f1 f2 f3 a2 a3 i3
    try go_simp
    generalize ((w3.setCell ⟨w.heap.size, 1, none⟩ (.slice q1 s.jobs.length d1)).setCell ⟨w.heap.size, 2, none⟩ (.slice q2 s.nodes.length d2)).setCell ⟨w.heap.size, 3, none⟩ (.slice q3 s.leases.length d3) = W3 at *
    have G4 := growR W3 (w.heap.size + 1) #[Value.int .i64 s.rev, .slice q1 s.jobs.length d1, .slice q2 s.nodes.length d2, .slice q3 s.leases.length d3]
    have hS4 := Lib.hid (hS.other G4 Z (by decide) (by decide) (by decide))
    have hB4 := Lib.hid (below_setRow hB (Nat.le_succ _) #[Value.int .i64 s.rev, .slice q1 s.jobs.length d1, .slice q2 s.nodes.length d2, .slice q3 s.leases.length d3])
    clear hS hB G4
    go_wp2_with (first
      | (refine wpList_load_blk rfl _ _ rfl w.heap.size rfl _ #[Value.int .i64 s.rev, .slice q1 s.jobs.length d1, .slice q2 s.nodes.length d2, .slice q3 s.leases.length d3] X _ Tryd.underlying26 rfl state_size ?_)
      | (refine wpList_store_blk rfl _ _ _ rfl (w.heap.size + 1) rfl _ _ #[Value.int .i64 s.rev, .slice q1 s.jobs.length d1, .slice q2 s.nodes.length d2, .slice q3 s.leases.length d3] Z rfl state_size rfl (one_st4 _ _ _ _ _ _ _ _ _ _) ?_))
    refine bodyPost_ret (results_cell1 rfl _ rfl (Z.setRow #[Value.int .i64 s.rev, .slice q1 s.jobs.length d1, .slice q2 s.nodes.length d2, .slice q3 s.leases.length d3]) Tryd.underlying26 rfl state_size) rfl ?_
    exact ⟨q1, q2, q3, d1, d2, d3, rfl, hS4.out, hB4.out⟩)
end Go.Proofs.YtejdhcipmkaboaaDoor

/-
  The contract of up.step.
-/
set_option linter.unusedVariables false
set_option linter.unusedSimpArgs false
namespace Go.Proofs.YtejdhcipmkaboaaDoor
open Go.RowKit
set_option maxHeartbeats 1000000 in
set_option maxRecDepth 100000 in
theorem stepFn_any (gs gi k : Nat) (s : St) (q1 q2 q3 : Option Addr) (d1 d2 d3 : Nat) (x : JobD) (l : LeaseD) (w : World) (bs : Blk w gs 26 #[.int .i64 s.rev, .slice q1 s.jobs.length d1, .slice q2 s.nodes.length d2, .slice q3 s.leases.length d3])
    (bi : Blk w gi 3 #[.int .i64 k]) (hel : Elts w w.heap.size 5 q1 (s.jobs.map rowJ)) (hx : s.jobs[k]? = some x) (hl : s.jobs.length ≤ 4611686018427387904) :
    Calls Tryd.prog 92 #[.agg #[.string l.job, .string l.node, .int .i64 l.till], .pointer (some ⟨gs, 0, none⟩), .pointer (some ⟨gi, 0, none⟩)] w fun e w' => e = .returned (.bool (decide (l.job = x.name))) ∧ Below w.heap.size w w' := by
  have hk : k < s.jobs.length := (List.getElem?_eq_some_iff.1 hx).1
  obtain ⟨a, rfl, hab, _, hat⟩ := hel.at_ (k := k) (r := rowJ x) (by rw [List.getElem?_map, hx]; rfl)
  have hb0 : Below w.heap.size w (w.alloc (.cells #[.string l.job, .string l.node, .int .i64 l.till] 47)) := (Below.refl _ _).alloc (Nat.le_refl _) _
  have bl := Blk.new w 47 #[.string l.job, .string l.node, .int .i64 l.till]
  have bs0 := bs.alloc (.cells #[.string l.job, .string l.node, .int .i64 l.till] 47)
  have bi0 := bi.alloc (.cells #[.string l.job, .string l.node, .int .i64 l.till] 47)
  have hat0 := hat.below hb0 (by rw [block_of_add]; exact hab)
  have htb : (l.job.toList == x.name.toList) = decide (l.job = x.name) := tl_beq _ _
  have HT := Lib.hid htb
  have hk0 : (0 : Int) ≤ (k : Int) := by omega
  have hk1 : (k : Int) < (s.jobs.length : Int) := by omega
  clear bs bi hat hel htb hx
  go_enter Tryd.func92, Tryd.ntmps92
  go_wp2_with fail
  generalize w.alloc _ = w0 at *
  have e0 : w0.cell? ⟨w.heap.size, 0, none⟩ = some (.string l.job) := bl.cell 0
  have e1 : w0.cell? ⟨gs, 1, none⟩ = some (.slice (some a) s.jobs.length d1) := bs0.cell 1
  have e2 : w0.cell? ⟨gi, 0, none⟩ = some (.int .i64 k) := bi0.cell 0
  have e3 : w0.cell? (a.add (k * 5)) = some (.string x.name) := by have := hat0 0 (.string x.name) rfl; rwa [show (a.add (k * 5)).add 0 = a.add (k * 5) from by unfold Addr.add; simp] at this
  clear bl bs0 bi0 hat0
  go_quiet (fail)
  go_wp2_with fail
  go_ret
  exact ⟨by rw [HT.out]; rfl, below_drewN hb0 _⟩
theorem list_set_same {α : Type} {l : List α} {k : Nat} {x : α} (h : l[k]? = some x) : l.set k x = l := by
  apply List.ext_getElem?
  intro i
  rw [List.getElem?_set]
  split
  · rename_i e; subst e; rw [h]; split
    · rfl
    · rename_i hn; rw [List.getElem?_eq_none (by omega)] at h; cases h
  · rfl
set_option maxHeartbeats 4000000 in
set_option maxRecDepth 100000 in
theorem upStep2_any (s : St) (base : Nat) (q1 q2 q3 : Option Addr) (d1 d2 d3 : Nat) (w : World) (hO : StOwn w base q1 q2 q3 d1 d2 d3 s) (hbase : base ≤ w.heap.size) (hj : s.jobs.length ≤ 4611686018427387904) (hn : s.nodes.length ≤ 4611686018427387904) (hl : s.leases.length ≤ 4611686018427387904) :
    Calls Tryd.prog 73 #[.agg #[.int .i64 s.rev, .slice q1 s.jobs.length d1, .slice q2 s.nodes.length d2, .slice q3 s.leases.length d3], .int .i64 2] w fun e w' =>
      e = .returned (.agg #[.int .i64 s.rev, .slice q1 s.jobs.length d1, .slice q2 s.nodes.length d2, .slice q3 s.leases.length d3]) ∧ StOwn w' base q1 q2 q3 d1 d2 d3 (stepS s 2) ∧ Below base w w' ∧ RKeep w w' := by
  have hzs := zero_state_lit
  have bs := (Blk.new w 26 #[Value.int .i64 s.rev, Value.slice q1 s.jobs.length d1, Value.slice q2 s.nodes.length d2, Value.slice q3 s.leases.length d3]).alloc (.cells #[.int .i64 0, .slice none 0 0, .slice none 0 0, .slice none 0 0] 26)
  have bz := Blk.new (w.alloc (.cells #[Value.int .i64 s.rev, Value.slice q1 s.jobs.length d1, Value.slice q2 s.nodes.length d2, Value.slice q3 s.leases.length d3] 26)) 26 #[.int .i64 0, .slice none 0 0, .slice none 0 0, .slice none 0 0]
  rw [show (w.alloc (.cells #[Value.int .i64 s.rev, Value.slice q1 s.jobs.length d1, Value.slice q2 s.nodes.length d2, Value.slice q3 s.leases.length d3] 26)).heap.size = w.heap.size + 1 by simp] at bz
  have hB0 : Below w.heap.size w ((w.alloc (.cells #[Value.int .i64 s.rev, Value.slice q1 s.jobs.length d1, Value.slice q2 s.nodes.length d2, Value.slice q3 s.leases.length d3] 26)).alloc (.cells #[.int .i64 0, .slice none 0 0, .slice none 0 0, .slice none 0 0] 26)) := ((Below.refl _ _).alloc (Nat.le_refl _) _).alloc (by simp) _
  have hO0 := hO.below hB0
  clear hO
  go_enter Tryd.func73, Tryd.ntmps73
  go_wp2_with fail
  generalize (w.alloc (.cells #[Value.int .i64 s.rev, Value.slice q1 s.jobs.length d1, Value.slice q2 s.nodes.length d2, Value.slice q3 s.leases.length d3] 26)).alloc _ = w0 at *
  have hb00 := hB0.mono hbase
  have hk00 := RKeep.below hB0
  have e1 : w0.cell? ⟨w.heap.size, 1, none⟩ = some (.slice q1 s.jobs.length d1) := bs.cell 1
  go_wp2_with fail
  clear e1
  go_loopw [13] (fun i wr => ∃ k : Nat, k ≤ s.jobs.length ∧ i = .int .i64 k ∧ StOwn wr base q1 q2 q3 d1 d2 d3 ⟨s.rev, mixL (triesJ s.leases) s.jobs k, s.nodes, s.leases⟩ ∧ Below base w wr ∧ RKeep w wr ∧
      Blk wr w.heap.size 26 #[Value.int .i64 s.rev, Value.slice q1 s.jobs.length d1, Value.slice q2 s.nodes.length d2, Value.slice q3 s.leases.length d3] ∧ Blk wr (w.heap.size + 1) 26 #[.int .i64 0, .slice none 0 0, .slice none 0 0, .slice none 0 0]) (fun i _ => s.jobs.length - (intOf i).toNat)
  case atStart => exact ⟨0, Nat.zero_le _, rfl, by rw [mixL_zero]; exact hO0, hb00, hk00, bs, bz⟩
  case round =>
    obtain ⟨k, hk, rfl, hOr, hBr, hKr, bsr, bzr⟩ := hrel
    clear hO0 bs bz hb00 hB0 hk00
    by_cases hlt : k < s.jobs.length
    · have hx : s.jobs[k]? = some s.jobs[k] := List.getElem?_eq_getElem hlt
      generalize s.jobs[k] = x at *
      have hmx := mixL_at (triesJ s.leases) s.jobs k x hx
      have hms := mixL_succ (triesJ s.leases) s.jobs k x hx
      have hml := mixL_len (triesJ s.leases) s.jobs k
      generalize hmk : mixL (triesJ s.leases) s.jobs (k + 1) = js' at *
      generalize mixL (triesJ s.leases) s.jobs k = js at *
      obtain ⟨g, cur, rfl, hbg, hgb, hcs, hcc⟩ := hOr.j.where_ (by rw [List.length_map, hml]; omega)
      have hBw : w.heap.size ≤ wr.heap.size := hBr.size
      have bi := Blk.new wr 3 #[.int .i64 k]
      have hb1 : Below wr.heap.size wr (wr.alloc (.cells #[.int .i64 k] 3)) := (Below.refl _ _).alloc (Nat.le_refl _) _
      have bs1 := bsr.alloc (.cells #[.int .i64 k] 3)
      have e1 : (wr.alloc (.cells #[.int .i64 k] 3)).cell? ⟨w.heap.size, 3, none⟩ = some (.slice q3 s.leases.length d3) := bs1.cell 3
      have hO1 := hOr.below hb1
      have HF : FnOk Tryd.prog (wr.alloc (.cells #[.int .i64 k] 3)) 92 #[.pointer (some ⟨w.heap.size, 0, none⟩), .pointer (some ⟨wr.heap.size, 0, none⟩)] rowL (fun l => decide (l.job = x.name)) s.leases :=
        ⟨fun args W => by kernel_rfl, fun l _ W hW => by
          have hO2 := hO1.below hW
          have := stepFn_any w.heap.size wr.heap.size k ⟨s.rev, js, s.nodes, s.leases⟩ (some ⟨g, 0, none⟩) q2 q3 d1 d2 d3 x l W (by rw [show (⟨s.rev, js, s.nodes, s.leases⟩ : St).jobs.length = s.jobs.length from hml]; exact bs1.below hW bs1.lt) (bi.below hW bi.lt) hO2.m.j hmx (by show js.length ≤ _; omega)
          exact this⟩
      have hc := containsFL_any _ _ _ q3 d3 s.leases _ hO1.m.l hl HF
      have hak : s.leases.any (fun l => decide (l.job = x.name)) = hasL s.leases x.name := rfl
      have hfx : triesJ s.leases x = ⟨x.name, x.prio, x.need, if hasL s.leases x.name = true then 1 else x.tries, x.tag⟩ := rfl
      have hk0 : (0 : Int) ≤ (k : Int) := by omega
      have hk1 : (k : Int) < (s.jobs.length : Int) := by omega
      rw [hak] at hc
      clear HF hak
      cases hhl : hasL s.leases x.name
      · rw [hhl] at hc hfx
        rw [if_neg (by simp)] at hfx
        have HC := Lib.hid hc
        have hjx : js' = js := by rw [hms, hfx]; exact list_set_same hmx
        clear hc hhl hms hfx
        go_wp2_with fail
        refine HC.out.mono ?_
        rintro e w2 ⟨rfl, hb2⟩
        have bs2 := bs1.below hb2 bs1.lt
        have bz2 := (bzr.alloc (.cells #[.int .i64 k] 3)).below hb2 (bzr.alloc (.cells #[.int .i64 k] 3)).lt
        have hO2 := hO1.below hb2
        have hK2 : RKeep w w2 := hKr.trans (RKeep.below (hb1.trans (hb2.mono hb1.size)))
        have hB2 : Below base w w2 := hBr.trans ((hb1.trans (hb2.mono hb1.size)).mono (Nat.le_trans hbase hBw))
        clear bs1 hO1 hb2 bi HC hb1
        go_wp2_with fail
        go_roundw
        case rel => exact ⟨k + 1, by omega, by go_num, by rw [hmk, hjx]; exact hO2, hB2, hK2, bs2, bz2⟩
        case measure => simp [intOf]; omega
      · rw [hhl] at hc hfx
        rw [if_pos rfl] at hfx
        have HC := Lib.hid hc
        clear hc hhl
        go_wp2_with fail
        refine HC.out.mono ?_
        rintro e w2 ⟨rfl, hb2⟩
        have bs2 := bs1.below hb2 bs1.lt
        have bi2 := (bi.below hb2 bi.lt)
        have hO2 := hO1.below hb2
        have e1 : w2.cell? ⟨w.heap.size, 1, none⟩ = some (.slice (some ⟨g, 0, none⟩) s.jobs.length d1) := bs2.cell 1
        have e2 : w2.cell? ⟨wr.heap.size, 0, none⟩ = some (.int .i64 k) := bi2.cell 0
        obtain ⟨e3, f3⟩ := hO2.j.cellAt (k := k) (j := 3) (r := rowJ x) (v := .int .i64 x.tries) (by rw [List.getElem?_map, hmx]; rfl) rfl
        have hO3 := hO2.setJ hmx 3 ⟨x.name, x.prio, x.need, 1, x.tag⟩ (.int .i64 1) (by decide) rfl
        have bz2 := (bzr.alloc (.cells #[.int .i64 k] 3)).below hb2 (bzr.alloc (.cells #[.int .i64 k] 3)).lt
        obtain ⟨bs3, hbg3⟩ := hO2.keepJ (by show 0 < js.length; omega) bs2 (by decide) (k * 5 + 3) (.int .i64 1)
        obtain ⟨bz3, _⟩ := hO2.keepJ (by show 0 < js.length; omega) bz2 (by decide) (k * 5 + 3) (.int .i64 1)
        have hK3 : RKeep w (w2.setCell ⟨g, k * 5 + 3, none⟩ (.int .i64 1)) := (hKr.trans (RKeep.below (hb1.trans (hb2.mono hb1.size)))).trans (RKeep.setJ hO2 (by show 0 < js.length; omega) _ _)
        have hB3 : Below base w (w2.setCell ⟨g, k * 5 + 3, none⟩ (.int .i64 1)) := (hBr.trans ((hb1.trans (hb2.mono hb1.size)).mono (Nat.le_trans hbase hBw))).setCell (p := ⟨g, k * 5 + 3, none⟩) hbg3 _
        rw [← hfx] at hO3
        have HO3 := Lib.hid hO3
        have HMS := Lib.hid hms
        clear bs1 hO1 hb2 bi HC hb1 bs2 bi2 hO2 bz2 hO3 hms hfx
        go_wp2_with fail
        go_roundw
        case rel => exact ⟨k + 1, by omega, by go_num, by rw [hmk, HMS.out]; exact HO3.out, hB3, hK3, bs3, bz3⟩
        case measure => simp [intOf]; omega
    · obtain rfl : k = s.jobs.length := by omega
      rw [mixL_end] at hOr
      have hlen : (s.jobs.map (triesJ s.leases)).length = s.jobs.length := List.length_map _
      generalize hjs : s.jobs.map (triesJ s.leases) = js at *
      have HJS := Lib.hid hjs
      have HLEN := Lib.hid hlen
      clear hjs hlen
      obtain ⟨wo, rfl⟩ : ∃ wo : World, wo = wr := ⟨_, rfl⟩
      have e1 : wo.cell? ⟨w.heap.size, 2, none⟩ = some (.slice q2 s.nodes.length d2) := bsr.cell 2
      go_wp2_with fail
      clear e1
      go_loopw [29] (fun i wr => ∃ k : Nat, k ≤ s.nodes.length ∧ i = .int .i64 k ∧ StOwn wr base q1 q2 q3 d1 d2 d3 ⟨s.rev, js, mixL zoneN s.nodes k, s.leases⟩ ∧ Below base w wr ∧ RKeep w wr ∧
          Blk wr w.heap.size 26 #[Value.int .i64 s.rev, Value.slice q1 s.jobs.length d1, Value.slice q2 s.nodes.length d2, Value.slice q3 s.leases.length d3] ∧ Blk wr (w.heap.size + 1) 26 #[.int .i64 0, .slice none 0 0, .slice none 0 0, .slice none 0 0]) (fun i _ => s.nodes.length - (intOf i).toNat)
      case atStart => exact ⟨0, Nat.zero_le _, rfl, by rw [mixL_zero]; exact hOr, hBr, hKr, bsr, bzr⟩
      case round =>
        clear hOr hBr hKr bsr bzr
        obtain ⟨k, hk, rfl, hOr, hBr, hKr, bsr, bzr⟩ := hrel
        by_cases hlt : k < s.nodes.length
        · have hx : s.nodes[k]? = some s.nodes[k] := List.getElem?_eq_getElem hlt
          generalize s.nodes[k] = x at *
          have hmx := mixL_at zoneN s.nodes k x hx
          have hms := mixL_succ zoneN s.nodes k x hx
          have hml := mixL_len zoneN s.nodes k
          generalize hmk : mixL zoneN s.nodes (k + 1) = ns' at *
          generalize mixL zoneN s.nodes k = ns at *
          obtain ⟨g, cur, rfl, hbg, hgb, hcs, hcc⟩ := hOr.n.where_ (by rw [List.length_map, hml]; omega)
          have hk0 : (0 : Int) ≤ (k : Int) := by omega
          have hk1 : (k : Int) < (s.nodes.length : Int) := by omega
          have e1 : wr.cell? ⟨w.heap.size, 2, none⟩ = some (.slice (some ⟨g, 0, none⟩) s.nodes.length d2) := bsr.cell 2
          obtain ⟨e3, f3⟩ := hOr.n.cellAt (k := k) (j := 2) (r := rowN x) (v := .string x.zone) (by rw [List.getElem?_map, hmx]; rfl) rfl
          have hO3 := hOr.setN hmx 2 (zoneN x) (.string ⟨#[45]⟩) (by decide) rfl
          obtain ⟨bs3, hbg3⟩ := hOr.keepN (by show 0 < ns.length; omega) bsr (by decide) (k * 3 + 2) (.string ⟨#[45]⟩)
          obtain ⟨bz3, _⟩ := hOr.keepN (by show 0 < ns.length; omega) bzr (by decide) (k * 3 + 2) (.string ⟨#[45]⟩)
          have hK3 : RKeep w (wr.setCell ⟨g, k * 3 + 2, none⟩ (.string ⟨#[45]⟩)) := hKr.trans (RKeep.setN hOr (by show 0 < ns.length; omega) _ _)
          have hB3 : Below base w (wr.setCell ⟨g, k * 3 + 2, none⟩ (.string ⟨#[45]⟩)) := hBr.setCell (p := ⟨g, k * 3 + 2, none⟩) hbg3 _
          have HO3 := Lib.hid hO3
          have HMS := Lib.hid hms
          clear hOr bsr bzr hO3 hms hmx hgb
          go_wp2_with fail
          go_roundw
          case rel => exact ⟨k + 1, by omega, by go_num, by rw [hmk, HMS.out]; exact HO3.out, hB3, hK3, bs3, bz3⟩
          case measure => simp [intOf]; omega
        · obtain rfl : k = s.nodes.length := by omega
          rw [mixL_end] at hOr
          have HO4 := Lib.hid ((hOr.other (growR wr (w.heap.size + 1) #[Value.int .i64 s.rev, Value.slice q1 s.jobs.length d1, Value.slice q2 s.nodes.length d2, Value.slice q3 s.leases.length d3]) bzr (by decide) (by decide) (by decide)))
          have hK4 := Lib.hid (hKr.setRow_ (g := w.heap.size + 1) (Nat.le_succ _) #[Value.int .i64 s.rev, Value.slice q1 s.jobs.length d1, Value.slice q2 s.nodes.length d2, Value.slice q3 s.leases.length d3])
          have hB4 := Lib.hid (below_setRow hBr (Nat.le_succ_of_le hbase) #[Value.int .i64 s.rev, Value.slice q1 s.jobs.length d1, Value.slice q2 s.nodes.length d2, Value.slice q3 s.leases.length d3])
          clear hOr hBr
          go_wp2_with (first
            | (refine wpList_load_blk rfl _ _ rfl w.heap.size rfl _ #[Value.int .i64 s.rev, .slice q1 s.jobs.length d1, .slice q2 s.nodes.length d2, .slice q3 s.leases.length d3] bsr _ Tryd.underlying26 rfl state_size ?_)
            | (refine wpList_store_blk rfl _ _ _ rfl (w.heap.size + 1) rfl _ _ #[Value.int .i64 s.rev, .slice q1 s.jobs.length d1, .slice q2 s.nodes.length d2, .slice q3 s.leases.length d3] bzr rfl state_size rfl (one_st4 _ _ _ _ _ _ _ _ _ _) ?_))
          refine bodyPost_ret (results_cell1 rfl _ rfl (bzr.setRow #[Value.int .i64 s.rev, .slice q1 s.jobs.length d1, .slice q2 s.nodes.length d2, .slice q3 s.leases.length d3]) Tryd.underlying26 rfl state_size) rfl ?_
          have hst : stepS s 2 = ⟨s.rev, js, s.nodes.map zoneN, s.leases⟩ := by rw [← HJS.out]; rfl
          exact ⟨rfl, by rw [hst]; exact HO4.out, hB4.out, hK4.out⟩
set_option maxHeartbeats 4000000 in
set_option maxRecDepth 100000 in
theorem upStep3_any (s : St) (base : Nat) (q1 q2 q3 : Option Addr) (d1 d2 d3 : Nat) (w : World) (hO : StOwn w base q1 q2 q3 d1 d2 d3 s) (hbase : base ≤ w.heap.size) :
    Calls Tryd.prog 73 #[.agg #[.int .i64 s.rev, .slice q1 s.jobs.length d1, .slice q2 s.nodes.length d2, .slice q3 s.leases.length d3], .int .i64 3] w fun e w' =>
      e = .returned (.agg #[.int .i64 1, .slice q1 s.jobs.length d1, .slice q2 s.nodes.length d2, .slice q3 s.leases.length d3]) ∧ StOwn w' base q1 q2 q3 d1 d2 d3 (stepS s 3) ∧ Below base w w' ∧ RKeep w w' := by
  have hzs := zero_state_lit
  have bs := (Blk.new w 26 #[Value.int .i64 s.rev, Value.slice q1 s.jobs.length d1, Value.slice q2 s.nodes.length d2, Value.slice q3 s.leases.length d3]).alloc (.cells #[.int .i64 0, .slice none 0 0, .slice none 0 0, .slice none 0 0] 26)
  have bz := Blk.new (w.alloc (.cells #[Value.int .i64 s.rev, Value.slice q1 s.jobs.length d1, Value.slice q2 s.nodes.length d2, Value.slice q3 s.leases.length d3] 26)) 26 #[.int .i64 0, .slice none 0 0, .slice none 0 0, .slice none 0 0]
  rw [show (w.alloc (.cells #[Value.int .i64 s.rev, Value.slice q1 s.jobs.length d1, Value.slice q2 s.nodes.length d2, Value.slice q3 s.leases.length d3] 26)).heap.size = w.heap.size + 1 by simp] at bz
  have hB0 : Below w.heap.size w ((w.alloc (.cells #[Value.int .i64 s.rev, Value.slice q1 s.jobs.length d1, Value.slice q2 s.nodes.length d2, Value.slice q3 s.leases.length d3] 26)).alloc (.cells #[.int .i64 0, .slice none 0 0, .slice none 0 0, .slice none 0 0] 26)) := ((Below.refl _ _).alloc (Nat.le_refl _) _).alloc (by simp) _
  have hO0 := hO.below hB0
  clear hO
  go_enter Tryd.func73, Tryd.ntmps73
  go_upto_region 1 with (fail)
  generalize (w.alloc (.cells #[Value.int .i64 s.rev, Value.slice q1 s.jobs.length d1, Value.slice q2 s.nodes.length d2, Value.slice q3 s.leases.length d3] 26)).alloc _ = w0 at *
  have hb00 := hB0.mono hbase
  have hk00 := RKeep.below hB0
  have e0 : w0.cell? ⟨w.heap.size, 0, none⟩ = some (.int .i64 s.rev) := bs.cell 0
  have f0 := bs.frozen 0
  have G1 := grow_cell w0 w.heap.size 0 (.int .i64 1)
  have hO1 := hO0.other G1 bs (by decide) (by decide) (by decide)
  have bz1 := bz.far (p := ⟨w.heap.size, 0, none⟩) (by show w.heap.size + 1 ≠ w.heap.size; omega) (.int .i64 1)
  have bs1 : Blk (w0.setCell ⟨w.heap.size, 0, none⟩ (.int .i64 1)) w.heap.size 26 #[Value.int .i64 1, Value.slice q1 s.jobs.length d1, Value.slice q2 s.nodes.length d2, Value.slice q3 s.leases.length d3] := bs.set_ 0 _
  have hB1 := hb00.setCell (p := ⟨w.heap.size, 0, none⟩) hbase (.int .i64 1)
  have hK4 := Lib.hid ((hk00.setCell_ (p := ⟨w.heap.size, 0, none⟩) (Nat.le_refl _) (.int .i64 1)).setRow_ (g := w.heap.size + 1) (Nat.le_succ _) #[Value.int .i64 1, Value.slice q1 s.jobs.length d1, Value.slice q2 s.nodes.length d2, Value.slice q3 s.leases.length d3])
  have HO4 := Lib.hid ((hO1.other (growR _ (w.heap.size + 1) #[Value.int .i64 1, Value.slice q1 s.jobs.length d1, Value.slice q2 s.nodes.length d2, Value.slice q3 s.leases.length d3]) bz1 (by decide) (by decide) (by decide)))
  have hB4 := Lib.hid (below_setRow hB1 (Nat.le_succ_of_le hbase) #[Value.int .i64 1, Value.slice q1 s.jobs.length d1, Value.slice q2 s.nodes.length d2, Value.slice q3 s.leases.length d3])
  clear hO0 hO1 G1 hB0 hb00 bs bz hB1
  go_wp2_with (first
    | (refine wpList_load_blk rfl _ _ rfl w.heap.size rfl _ #[Value.int .i64 1, .slice q1 s.jobs.length d1, .slice q2 s.nodes.length d2, .slice q3 s.leases.length d3] bs1 _ Tryd.underlying26 rfl state_size ?_)
    | (refine wpList_store_blk rfl _ _ _ rfl (w.heap.size + 1) rfl _ _ #[Value.int .i64 1, .slice q1 s.jobs.length d1, .slice q2 s.nodes.length d2, .slice q3 s.leases.length d3] bz1 rfl state_size rfl (one_st4 _ _ _ _ _ _ _ _ _ _) ?_))
  refine bodyPost_ret (results_cell1 rfl _ rfl (bz1.setRow #[Value.int .i64 1, .slice q1 s.jobs.length d1, .slice q2 s.nodes.length d2, .slice q3 s.leases.length d3]) Tryd.underlying26 rfl state_size) rfl ?_
  have hst : stepS s 3 = ⟨1, s.jobs, s.nodes, s.leases⟩ := rfl
  exact ⟨rfl, by rw [hst]; exact ⟨HO4.out.j, HO4.out.n, HO4.out.l⟩, hB4.out, hK4.out⟩
theorem upStep_any (k : Nat) (hk : k = 2 ∨ k = 3) (s : St) (base : Nat) (q1 q2 q3 : Option Addr) (d1 d2 d3 : Nat) (w : World) (hO : StOwn w base q1 q2 q3 d1 d2 d3 s) (hbase : base ≤ w.heap.size) (hj : s.jobs.length ≤ 4611686018427387904) (hn : s.nodes.length ≤ 4611686018427387904) (hl : s.leases.length ≤ 4611686018427387904) :
    Calls Tryd.prog 73 #[.agg #[.int .i64 s.rev, .slice q1 s.jobs.length d1, .slice q2 s.nodes.length d2, .slice q3 s.leases.length d3], .int .i64 (k : Int)] w fun e w' =>
      e = .returned (.agg #[.int .i64 (stepS s k).rev, .slice q1 s.jobs.length d1, .slice q2 s.nodes.length d2, .slice q3 s.leases.length d3]) ∧ StOwn w' base q1 q2 q3 d1 d2 d3 (stepS s k) ∧ Below base w w' ∧ RKeep w w' := by
  rcases hk with rfl | rfl
  · exact upStep2_any s base q1 q2 q3 d1 d2 d3 w hO hbase hj hn hl
  · exact upStep3_any s base q1 q2 q3 d1 d2 d3 w hO hbase
theorem stepS_len (s : St) (k : Nat) : (stepS s k).jobs.length = s.jobs.length ∧ (stepS s k).nodes.length = s.nodes.length ∧ (stepS s k).leases.length = s.leases.length := by
  unfold stepS
  split
  · simp [mapS]
  · split <;> exact ⟨rfl, rfl, rfl⟩
theorem upTo_len (s : St) (a : Nat) : ∀ n, (upTo s a n).jobs.length = s.jobs.length ∧ (upTo s a n).nodes.length = s.nodes.length ∧ (upTo s a n).leases.length = s.leases.length
  | 0 => ⟨rfl, rfl, rfl⟩
  | n + 1 => by
    obtain ⟨h1, h2, h3⟩ := upTo_len s a n
    obtain ⟨g1, g2, g3⟩ := stepS_len (upTo s a n) (a + n + 1)
    exact ⟨g1.trans h1, g2.trans h2, g3.trans h3⟩
end Go.Proofs.YtejdhcipmkaboaaDoor

/-
  Contracts of up.isWay, up.steps, up.State.
-/
set_option linter.unusedVariables false
set_option linter.unusedSimpArgs false
namespace Go.Proofs.YtejdhcipmkaboaaDoor
open Go.RowKit
set_option maxRecDepth 100000 in
theorem isWay_any (a b : Int) (w : World) : Calls Tryd.prog 56 #[.int .i64 a, .int .i64 b] w fun e w' => e = .returned (.bool (decide (1 ≤ a ∧ a ≤ b ∧ b ≤ 3))) ∧ w = w' := by
  by_cases h1 : 1 ≤ a
  · by_cases h2 : a ≤ b
    · by_cases h3 : b ≤ 3
      · go_enter Tryd.func56, Tryd.ntmps56
        go_wp2_with fail
        go_ret
        exact ⟨congrArg (fun b => Ending.returned (.bool b)) (by simp [h1, h2, h3]), rfl⟩
      · have h3' : decide (b ≤ 3) = false := decide_eq_false h3
        go_enter Tryd.func56, Tryd.ntmps56
        go_wp2_with fail
        all_goals go_ret
        all_goals exact ⟨congrArg (fun b => Ending.returned (.bool b)) (by simp [h1, h2, h3]), rfl⟩
    · have h2' : decide (a ≤ b) = false := decide_eq_false h2
      go_enter Tryd.func56, Tryd.ntmps56
      go_wp2_with fail
      all_goals go_ret
      all_goals exact ⟨congrArg (fun b => Ending.returned (.bool b)) (by simp [h1, h2]), rfl⟩
  · have h1' : decide (1 ≤ a) = false := decide_eq_false h1
    go_enter Tryd.func56, Tryd.ntmps56
    go_wp2_with fail
    all_goals go_ret
    all_goals exact ⟨congrArg (fun b => Ending.returned (.bool b)) (by simp [h1]), rfl⟩
set_option maxHeartbeats 4000000 in
set_option maxRecDepth 100000 in
theorem upSteps_any (s : St) (a b : Nat) (ha : 1 ≤ a) (hab : a ≤ b) (hb3 : b ≤ 3) (p1 p2 p3 : Option Addr) (c1 c2 c3 : Nat) (w : World) (hm : StM w w.heap.size p1 p2 p3 s) (hj : s.jobs.length ≤ 1099511627776) (hn : s.nodes.length ≤ 1099511627776) (hl : s.leases.length ≤ 1099511627776) :
    Calls Tryd.prog 57 #[.agg #[.int .i64 s.rev, .slice p1 s.jobs.length c1, .slice p2 s.nodes.length c2, .slice p3 s.leases.length c3], .int .i64 (a : Int), .int .i64 (b : Int)] w fun e w' => OwnPost w (upTo s a (b - a)) e w' := by
  have hzs := zero_state_lit
  have bs := (Blk.new w 26 #[Value.int .i64 s.rev, Value.slice p1 s.jobs.length c1, Value.slice p2 s.nodes.length c2, Value.slice p3 s.leases.length c3]).alloc (.cells #[.int .i64 0, .slice none 0 0, .slice none 0 0, .slice none 0 0] 26)
  have bz := Blk.new (w.alloc (.cells #[Value.int .i64 s.rev, Value.slice p1 s.jobs.length c1, Value.slice p2 s.nodes.length c2, Value.slice p3 s.leases.length c3] 26)) 26 #[.int .i64 0, .slice none 0 0, .slice none 0 0, .slice none 0 0]
  rw [show (w.alloc (.cells #[Value.int .i64 s.rev, Value.slice p1 s.jobs.length c1, Value.slice p2 s.nodes.length c2, Value.slice p3 s.leases.length c3] 26)).heap.size = w.heap.size + 1 by simp] at bz
  have hB0 : Below w.heap.size w ((w.alloc (.cells #[Value.int .i64 s.rev, Value.slice p1 s.jobs.length c1, Value.slice p2 s.nodes.length c2, Value.slice p3 s.leases.length c3] 26)).alloc (.cells #[.int .i64 0, .slice none 0 0, .slice none 0 0, .slice none 0 0] 26)) := ((Below.refl _ _).alloc (Nat.le_refl _) _).alloc (by simp) _
  have HO := Lib.hid (upOwn_any s p1 p2 p3 c1 c2 c3 _ ((hm.below hB0).more hB0.size) hj hn hl)
  clear hm
  go_enter Tryd.func57, Tryd.ntmps57
  go_upto_region 1 with (fail)
  generalize (w.alloc (.cells #[Value.int .i64 s.rev, Value.slice p1 s.jobs.length c1, Value.slice p2 s.nodes.length c2, Value.slice p3 s.leases.length c3] 26)).alloc _ = w0 at *
  go_wp2_with (refine wpList_load_blk rfl _ _ rfl w.heap.size rfl _ #[Value.int .i64 s.rev, .slice p1 s.jobs.length c1, .slice p2 s.nodes.length c2, .slice p3 s.leases.length c3] bs _ Tryd.underlying26 rfl state_size ?_)
  refine HO.out.mono ?_
  rintro e w1 ⟨q1, q2, q3, d1, d2, d3, rfl, hO1, hb1⟩
  have bs1 := bs.below hb1 bs.lt
  have bz1 := bz.below hb1 bz.lt
  have hB1 := hB0.trans (hb1.mono hB0.size)
  have hO1 := hO1.less hB0.size
  have hO2 := hO1.other (growR w1 w.heap.size #[Value.int .i64 s.rev, .slice q1 s.jobs.length d1, .slice q2 s.nodes.length d2, .slice q3 s.leases.length d3]) bs1 (by decide) (by decide) (by decide)
  have bs2 := bs1.setRow #[Value.int .i64 s.rev, .slice q1 s.jobs.length d1, .slice q2 s.nodes.length d2, .slice q3 s.leases.length d3]
  have bz2 := bz1.setRow_far (show w.heap.size + 1 ≠ w.heap.size by omega) #[Value.int .i64 s.rev, .slice q1 s.jobs.length d1, .slice q2 s.nodes.length d2, .slice q3 s.leases.length d3]
  have hB2 := below_setRow hB1 (Nat.le_refl _) #[Value.int .i64 s.rev, .slice q1 s.jobs.length d1, .slice q2 s.nodes.length d2, .slice q3 s.leases.length d3]
  clear bs bz hb1 hB1 hO1 HO hB0
  go_wp2_with (refine wpList_store_blk rfl _ _ _ rfl w.heap.size rfl _ _ #[Value.int .i64 s.rev, .slice q1 s.jobs.length d1, .slice q2 s.nodes.length d2, .slice q3 s.leases.length d3] bs1 rfl state_size rfl (one_st4 _ _ _ _ _ _ _ _ _ _) ?_)
  clear bs1 bz1
  generalize w1.setRow _ _ = w2 at *
  go_loopw [7] (fun i wr => ∃ n : Nat, a + n ≤ b ∧ i = .int .i64 ((a + n + 1 : Nat) : Int) ∧ StOwn wr w.heap.size q1 q2 q3 d1 d2 d3 (upTo s a n) ∧ Below w.heap.size w wr ∧
      Blk wr w.heap.size 26 #[Value.int .i64 (upTo s a n).rev, Value.slice q1 s.jobs.length d1, Value.slice q2 s.nodes.length d2, Value.slice q3 s.leases.length d3] ∧ Blk wr (w.heap.size + 1) 26 #[.int .i64 0, .slice none 0 0, .slice none 0 0, .slice none 0 0]) (fun i _ => b + 2 - (intOf i).toNat)
  case atStart => exact ⟨0, by omega, by go_num, hO2, hB2, bs2, bz2⟩
  case round =>
    clear hO2 hB2 bs2 bz2
    obtain ⟨n, hn1, rfl, hOr, hBr, bsr, bzr⟩ := hrel
    obtain ⟨l1, l2, l3⟩ := upTo_len s a n
    by_cases hlt : a + n + 1 ≤ b
    · have hc := upStep_any (a + n + 1) (by omega) (upTo s a n) w.heap.size q1 q2 q3 d1 d2 d3 wr hOr hBr.size (by omega) (by omega) (by omega)
      have hsucc : stepS (upTo s a n) (a + n + 1) = upTo s a (n + 1) := rfl
      rw [l1, l2, l3, hsucc] at hc
      have HC := Lib.hid hc
      generalize upTo s a n = t at *
      generalize hu : upTo s a (n + 1) = u at *
      have hle : ((a + n + 1 : Nat) : Int) ≤ (b : Int) := by omega
      clear hc l1 l2 l3 hsucc hOr
      go_wp2_with (refine wpList_load_blk rfl _ _ rfl w.heap.size rfl _ #[Value.int .i64 t.rev, .slice q1 s.jobs.length d1, .slice q2 s.nodes.length d2, .slice q3 s.leases.length d3] bsr _ Tryd.underlying26 rfl state_size ?_)
      refine HC.out.mono ?_
      rintro e w3 ⟨rfl, hO3, hb3, hK3⟩
      have bs3 := hK3 _ _ _ bsr (by decide) (by decide)
      have bz3 := hK3 _ _ _ bzr (by decide) (by decide)
      have hO4 := hO3.other (growR w3 w.heap.size #[Value.int .i64 u.rev, .slice q1 s.jobs.length d1, .slice q2 s.nodes.length d2, .slice q3 s.leases.length d3]) bs3 (by decide) (by decide) (by decide)
      have bs4 := bs3.setRow #[Value.int .i64 u.rev, .slice q1 s.jobs.length d1, .slice q2 s.nodes.length d2, .slice q3 s.leases.length d3]
      have bz4 := bz3.setRow_far (show w.heap.size + 1 ≠ w.heap.size by omega) #[Value.int .i64 u.rev, .slice q1 s.jobs.length d1, .slice q2 s.nodes.length d2, .slice q3 s.leases.length d3]
      have hB4 := below_setRow (hBr.trans hb3) (Nat.le_refl _) #[Value.int .i64 u.rev, .slice q1 s.jobs.length d1, .slice q2 s.nodes.length d2, .slice q3 s.leases.length d3]
      clear HC hO3 hK3 hb3 bsr bzr bz3
      go_wp2_with (refine wpList_store_blk rfl _ _ _ rfl w.heap.size rfl _ _ #[Value.int .i64 u.rev, .slice q1 s.jobs.length d1, .slice q2 s.nodes.length d2, .slice q3 s.leases.length d3] bs3 rfl state_size rfl (one_st4 _ _ _ _ _ _ _ _ _ _) ?_)
      go_roundw
      case rel => exact ⟨n + 1, by omega, by go_num, by rw [hu]; exact hO4, hB4, by rw [hu]; exact bs4, bz4⟩
      case measure => simp [intOf]; omega
    · obtain rfl : b = a + n := by omega
      have hni : ¬ ((a + n + 1 : Nat) : Int) ≤ ((a + n : Nat) : Int) := by omega
      have hd : decide (((a + n + 1 : Nat) : Int) ≤ ((a + n : Nat) : Int)) = false := decide_eq_false hni
      have hsub : a + n - a = n := by omega
      have HS := Lib.hid hsub
      have HO4 := Lib.hid ((hOr.other (growR wr (w.heap.size + 1) #[Value.int .i64 (upTo s a n).rev, Value.slice q1 s.jobs.length d1, Value.slice q2 s.nodes.length d2, Value.slice q3 s.leases.length d3]) bzr (by decide) (by decide) (by decide)))
      have hB4 := Lib.hid (below_setRow hBr (Nat.le_succ _) #[Value.int .i64 (upTo s a n).rev, Value.slice q1 s.jobs.length d1, Value.slice q2 s.nodes.length d2, Value.slice q3 s.leases.length d3])
      have HL := Lib.hid (And.intro l1 (And.intro l2 l3))
      generalize ht : upTo s a n = t at *
      have HT := Lib.hid ht
      clear hOr hBr hsub l1 l2 l3 ht
      go_wp2_with (first
        | (refine wpList_load_blk rfl _ _ rfl w.heap.size rfl _ #[Value.int .i64 t.rev, .slice q1 s.jobs.length d1, .slice q2 s.nodes.length d2, .slice q3 s.leases.length d3] bsr _ Tryd.underlying26 rfl state_size ?_)
        | (refine wpList_store_blk rfl _ _ _ rfl (w.heap.size + 1) rfl _ _ #[Value.int .i64 t.rev, .slice q1 s.jobs.length d1, .slice q2 s.nodes.length d2, .slice q3 s.leases.length d3] bzr rfl state_size rfl (one_st4 _ _ _ _ _ _ _ _ _ _) ?_))
      refine bodyPost_ret (results_cell1 rfl _ rfl (bzr.setRow #[Value.int .i64 t.rev, .slice q1 s.jobs.length d1, .slice q2 s.nodes.length d2, .slice q3 s.leases.length d3]) Tryd.underlying26 rfl state_size) rfl ?_
      obtain ⟨l1, l2, l3⟩ := HL.out
      refine (?_ : OwnPost w (upTo s a n) _ _)
      rw [HT.out]
      exact ⟨q1, q2, q3, d1, d2, d3, by rw [l1, l2, l3], HO4.out, hB4.out⟩
def UpPost (w : World) (r : St × Nat) (e : Ending) (w' : World) : Prop :=
  ∃ t er q1 q2 q3 d1 d2 d3, e = .returned (.tuple #[.agg #[.int .i64 t.rev, .slice q1 t.jobs.length d1, .slice q2 t.nodes.length d2, .slice q3 t.leases.length d3], .int .i64 ((er : Nat) : Int)]) ∧ StM w' w'.heap.size q1 q2 q3 t ∧ Below w.heap.size w w' ∧ r = (t, er)
theorem fitsR_way (s : St) (a : Int) (h : 1 ≤ a ∧ a ≤ 3) : fitsR s a = if checkE s ≠ 0 then (false, checkE s) else (fitsB s a, 0) := by
  unfold fitsR
  rw [withinB_iff.2 h, if_pos rfl]
set_option maxHeartbeats 4000000 in
set_option maxRecDepth 100000 in
theorem upState_any (s : St) (a b : Int) (p1 p2 p3 : Option Addr) (c1 c2 c3 : Nat) (w : World) (hm : StM w w.heap.size p1 p2 p3 s) (hz : StSz s) (hT : Tabs w) :
    Calls Tryd.prog 22 #[.agg #[.int .i64 s.rev, .slice p1 s.jobs.length c1, .slice p2 s.nodes.length c2, .slice p3 s.leases.length c3], .int .i64 a, .int .i64 b] w fun e w' => UpPost w (upR s a b) e w' := by
  have hzs := zero_state_lit
  have bs := (Blk.new w 26 #[Value.int .i64 s.rev, Value.slice p1 s.jobs.length c1, Value.slice p2 s.nodes.length c2, Value.slice p3 s.leases.length c3]).alloc (.cells #[.int .i64 0, .slice none 0 0, .slice none 0 0, .slice none 0 0] 26)
  have bz := Blk.new (w.alloc (.cells #[Value.int .i64 s.rev, Value.slice p1 s.jobs.length c1, Value.slice p2 s.nodes.length c2, Value.slice p3 s.leases.length c3] 26)) 26 #[.int .i64 0, .slice none 0 0, .slice none 0 0, .slice none 0 0]
  rw [show (w.alloc (.cells #[Value.int .i64 s.rev, Value.slice p1 s.jobs.length c1, Value.slice p2 s.nodes.length c2, Value.slice p3 s.leases.length c3] 26)).heap.size = w.heap.size + 1 by simp] at bz
  have hB0 : Below w.heap.size w ((w.alloc (.cells #[Value.int .i64 s.rev, Value.slice p1 s.jobs.length c1, Value.slice p2 s.nodes.length c2, Value.slice p3 s.leases.length c3] 26)).alloc (.cells #[.int .i64 0, .slice none 0 0, .slice none 0 0, .slice none 0 0] 26)) := ((Below.refl _ _).alloc (Nat.le_refl _) _).alloc (by simp) _
  have HW := Lib.hid (fun W : World => isWay_any a b W)
  have HF := Lib.hid (fun (W : World) (hW : Below w.heap.size w W) => stFits_any s a p1 p2 p3 c1 c2 c3 W ((hm.below hW).more hW.size) hz (hT.below hW))
  have HS := Lib.hid (fun (hc : checkE s = 0) (a b : Nat) (ha : 1 ≤ a) (hab : a ≤ b) (hb3 : b ≤ 3) (W : World) (hW : Below w.heap.size w W) => upSteps_any s a b ha hab hb3 p1 p2 p3 c1 c2 c3 W ((hm.below hW).more hW.size) (by have := ((fine_iff s).1 hc).nj; omega) (by have := ((fine_iff s).1 hc).nn; omega) (by have := ((fine_iff s).1 hc).nl; omega))
  clear hm hz hT
  cases hd : decide (1 ≤ a ∧ a ≤ b ∧ b ≤ 3)
  · have hR : upR s a b = (⟨0, [], [], []⟩, 1) := by unfold upR; rw [hd, if_pos rfl]
    have hw := HW.out
    rw [hd] at hw
    have HW2 := Lib.hid hw
    have HR := Lib.hid hR
    clear hw hR hd HS HF HW
    go_enter Tryd.func22, Tryd.ntmps22
    go_upto_region 1 with (fail)
    generalize (w.alloc (.cells #[Value.int .i64 s.rev, Value.slice p1 s.jobs.length c1, Value.slice p2 s.nodes.length c2, Value.slice p3 s.leases.length c3] 26)).alloc _ = w0 at *
    go_wp2_with fail
    refine (HW2.out _).mono ?_
    rintro e w' ⟨rfl, rfl⟩
    go_wp2_with (refine wpList_store_blk rfl _ _ _ rfl (w.heap.size + 1) rfl _ _ #[Value.int .i64 0, Value.slice none 0 0, Value.slice none 0 0, Value.slice none 0 0] bz rfl state_size rfl (one_st4 _ _ _ _ _ _ _ _ _ _) ?_)
    refine bodyPost_ret (results_cell_tmp1 rfl _ rfl (bz.setRow #[Value.int .i64 0, Value.slice none 0 0, Value.slice none 0 0, Value.slice none 0 0]) Tryd.underlying26 rfl state_size) rfl ?_
    exact ⟨⟨0, [], [], []⟩, 1, none, none, none, 0, 0, 0, rfl, ⟨.nil_, .nil_, .nil_⟩, below_setRow hB0 (Nat.le_succ _) _, HR.out⟩
  · obtain ⟨h1, h2, h3⟩ := of_decide_eq_true hd
    obtain ⟨m, rfl⟩ := Int.eq_ofNat_of_zero_le (show 0 ≤ a by omega)
    obtain ⟨n, rfl⟩ := Int.eq_ofNat_of_zero_le (show 0 ≤ b by omega)
    have hw := HW.out
    rw [hd] at hw
    have HW2 := Lib.hid hw
    have hfw := fitsR_way s m ⟨h1, by omega⟩
    have hf := HF.out
    have HS2 := Lib.hid (fun hc W hW => HS.out hc m n (by omega) (by omega) (by omega) W hW)
    have hR : upR s m n = if (fitsR s m).2 ≠ 0 then (⟨0, [], [], []⟩, (fitsR s m).2) else if (fitsR s m).1 = false then (⟨0, [], [], []⟩, 4) else (upTo s m (n - m), 0) := by
      unfold upR
      rw [hd, if_neg (by simp), show ((m : Int)).toNat = m by omega, show ((n : Int) - (m : Int)).toNat = n - m by omega]
    clear hw HF HS HW hd
    by_cases hc : checkE s = 0
    · have hfw2 : fitsR s m = (fitsB s m, 0) := by rw [hfw, if_neg (by rw [hc]; simp)]
      rw [hfw2] at hf hR
      rw [if_neg (by simp)] at hR
      clear hfw hfw2
      cases hb : fitsB s m
      · rw [hb] at hf hR
        rw [if_pos rfl] at hR
        have HF := Lib.hid hf
        have HR := Lib.hid hR
        clear hf hR hb hc HS2
        go_enter Tryd.func22, Tryd.ntmps22
        go_upto_region 1 with (fail)
        generalize (w.alloc (.cells #[Value.int .i64 s.rev, Value.slice p1 s.jobs.length c1, Value.slice p2 s.nodes.length c2, Value.slice p3 s.leases.length c3] 26)).alloc _ = w0 at *
        go_wp2_with fail
        refine (HW2.out _).mono ?_
        rintro e w' ⟨rfl, rfl⟩
        go_wp2_with (refine wpList_load_blk rfl _ _ rfl w.heap.size rfl _ #[Value.int .i64 s.rev, .slice p1 s.jobs.length c1, .slice p2 s.nodes.length c2, .slice p3 s.leases.length c3] bs _ Tryd.underlying26 rfl state_size ?_)
        refine (HF.out _ hB0).mono ?_
        rintro e w1 ⟨rfl, hb1⟩
        have bz1 := bz.below hb1 bz.lt
        have hB1 := hB0.trans (hb1.mono hB0.size)
        go_wp2_with (refine wpList_store_blk rfl _ _ _ rfl (w.heap.size + 1) rfl _ _ #[Value.int .i64 0, Value.slice none 0 0, Value.slice none 0 0, Value.slice none 0 0] bz1 rfl state_size rfl (one_st4 _ _ _ _ _ _ _ _ _ _) ?_)
        refine bodyPost_ret (results_cell_tmp1 rfl _ rfl (bz1.setRow #[Value.int .i64 0, Value.slice none 0 0, Value.slice none 0 0, Value.slice none 0 0]) Tryd.underlying26 rfl state_size) rfl ?_
        exact ⟨⟨0, [], [], []⟩, 4, none, none, none, 0, 0, 0, rfl, ⟨.nil_, .nil_, .nil_⟩, below_setRow hB1 (Nat.le_succ _) _, HR.out⟩
      · rw [hb] at hf hR
        rw [if_neg (by simp)] at hR
        have HF := Lib.hid hf
        have HR := Lib.hid hR
        have HS3 := Lib.hid (fun W hW => HS2.out hc W hW)
        clear hf hR hb hc HS2
        go_enter Tryd.func22, Tryd.ntmps22
        go_upto_region 1 with (fail)
        generalize (w.alloc (.cells #[Value.int .i64 s.rev, Value.slice p1 s.jobs.length c1, Value.slice p2 s.nodes.length c2, Value.slice p3 s.leases.length c3] 26)).alloc _ = w0 at *
        go_wp2_with fail
        refine (HW2.out _).mono ?_
        rintro e w' ⟨rfl, rfl⟩
        go_wp2_with (refine wpList_load_blk rfl _ _ rfl w.heap.size rfl _ #[Value.int .i64 s.rev, .slice p1 s.jobs.length c1, .slice p2 s.nodes.length c2, .slice p3 s.leases.length c3] bs _ Tryd.underlying26 rfl state_size ?_)
        refine (HF.out _ hB0).mono ?_
        rintro e w1 ⟨rfl, hb1⟩
        have bz1 := bz.below hb1 bz.lt
        have bs1 := bs.below hb1 bs.lt
        have hB1 := hB0.trans (hb1.mono hB0.size)
        clear bz bs hb1
        go_wp2_with (refine wpList_load_blk rfl _ _ rfl w.heap.size rfl _ #[Value.int .i64 s.rev, .slice p1 s.jobs.length c1, .slice p2 s.nodes.length c2, .slice p3 s.leases.length c3] bs1 _ Tryd.underlying26 rfl state_size ?_)
        refine (HS3.out _ hB1).mono ?_
        rintro e w2 ⟨q1, q2, q3, d1, d2, d3, rfl, hO2, hb2⟩
        have bz2 := bz1.below hb2 bz1.lt
        have hB2 := hB1.trans (hb2.mono hB1.size)
        generalize upTo s m (n - m) = t at *
        have hO3 := hO2.other (growR w2 (w.heap.size + 1) #[Value.int .i64 t.rev, .slice q1 t.jobs.length d1, .slice q2 t.nodes.length d2, .slice q3 t.leases.length d3]) bz2 (by decide) (by decide) (by decide)
        have HO := Lib.hid hO3
        clear hO2 hO3 hb2 bs1 bz1
        go_wp2_with (refine wpList_store_blk rfl _ _ _ rfl (w.heap.size + 1) rfl _ _ #[Value.int .i64 t.rev, .slice q1 t.jobs.length d1, .slice q2 t.nodes.length d2, .slice q3 t.leases.length d3] bz2 rfl state_size rfl (one_st4 _ _ _ _ _ _ _ _ _ _) ?_)
        refine bodyPost_ret (results_cell_tmp1 rfl _ rfl (bz2.setRow #[Value.int .i64 t.rev, .slice q1 t.jobs.length d1, .slice q2 t.nodes.length d2, .slice q3 t.leases.length d3]) Tryd.underlying26 rfl state_size) rfl ?_
        exact ⟨t, 0, q1, q2, q3, d1, d2, d3, rfl, HO.out.m, below_setRow hB2 (Nat.le_succ _) _, HR.out⟩
    · have hfw2 : fitsR s m = (false, checkE s) := by rw [hfw, if_pos hc]
      rw [hfw2] at hf hR
      rw [if_pos hc] at hR
      clear hfw hfw2
      have hne : ((checkE s : Int) != 0) = true := by rw [bne_iff_ne]; omega
      have hne2 : ((checkE s : Int) == 0) = false := by rw [beq_eq_false_iff_ne]; omega
      have HF := Lib.hid hf
      have HR := Lib.hid hR
      generalize checkE s = ce at *
      clear hf hR hc HS2
      go_enter Tryd.func22, Tryd.ntmps22
      go_upto_region 1 with (fail)
      generalize (w.alloc (.cells #[Value.int .i64 s.rev, Value.slice p1 s.jobs.length c1, Value.slice p2 s.nodes.length c2, Value.slice p3 s.leases.length c3] 26)).alloc _ = w0 at *
      go_wp2_with fail
      refine (HW2.out _).mono ?_
      rintro e w' ⟨rfl, rfl⟩
      go_wp2_with (refine wpList_load_blk rfl _ _ rfl w.heap.size rfl _ #[Value.int .i64 s.rev, .slice p1 s.jobs.length c1, .slice p2 s.nodes.length c2, .slice p3 s.leases.length c3] bs _ Tryd.underlying26 rfl state_size ?_)
      refine (HF.out _ hB0).mono ?_
      rintro e w1 ⟨rfl, hb1⟩
      have bz1 := bz.below hb1 bz.lt
      have hB1 := hB0.trans (hb1.mono hB0.size)
      go_wp2_with (refine wpList_store_blk rfl _ _ _ rfl (w.heap.size + 1) rfl _ _ #[Value.int .i64 0, Value.slice none 0 0, Value.slice none 0 0, Value.slice none 0 0] bz1 rfl state_size rfl (one_st4 _ _ _ _ _ _ _ _ _ _) ?_)
      refine bodyPost_ret (results_cell_tmp1 rfl _ rfl (bz1.setRow #[Value.int .i64 0, Value.slice none 0 0, Value.slice none 0 0, Value.slice none 0 0]) Tryd.underlying26 rfl state_size) rfl ?_
      exact ⟨⟨0, [], [], []⟩, ce, none, none, none, 0, 0, 0, rfl, ⟨.nil_, .nil_, .nil_⟩, below_setRow hB1 (Nat.le_succ _) _, HR.out⟩
end Go.Proofs.YtejdhcipmkaboaaDoor

/-
  The laws' own fact 'upped'.
-/
set_option linter.unusedVariables false
set_option linter.unusedSimpArgs false
namespace Go.Proofs.YtejdhcipmkaboaaDoor
open Go.RowKit
def upS0 : St := ⟨0, [], [⟨⟨#[110]⟩, 0, ByteArray.empty⟩], []⟩
theorem upS0_up : upR upS0 1 3 = (⟨1, [], [⟨⟨#[110]⟩, 0, dash⟩], []⟩, 0) := by decide +kernel
theorem upS0_sz : StSz upS0 := by
  refine ⟨?_, ?_, ?_, by decide, by decide, by decide⟩
  all_goals decide +kernel
set_option maxHeartbeats 2000000 in
set_option maxRecDepth 100000 in
theorem upped_any (w : World) (hT : Tabs w) : Calls Tryd.prog 21 #[] w fun e w' => e = .returned (.bool true) ∧ Below w.heap.size w w' := by
  have hzs := zero_state_lit
  have hzn := zero_node_lit
  go_enter Tryd.func21, Tryd.ntmps21
  go_wp2_with fail
  have hb0 : Below w.heap.size w (w.alloc (.cells #[.string ⟨#[110]⟩, .int .i64 0, .string ByteArray.empty] 68)) := (Below.refl _ _).alloc (Nat.le_refl _) _
  have bn := Blk.new w 68 #[.string ⟨#[110]⟩, .int .i64 0, .string ByteArray.empty]
  have hm : StM (w.alloc (.cells #[.string ⟨#[110]⟩, .int .i64 0, .string ByteArray.empty] 68)) (w.alloc (.cells #[.string ⟨#[110]⟩, .int .i64 0, .string ByteArray.empty] 68)).heap.size none (some ⟨w.heap.size, 0, none⟩) none upS0 := ⟨.nil_, .of_blk (by decide) bn rfl, .nil_⟩
  have hU := upState_any upS0 1 3 none (some ⟨w.heap.size, 0, none⟩) none 0 1 0 _ hm upS0_sz (hT.below hb0)
  rw [upS0_up] at hU
  have HU := Lib.hid hU
  clear hU hm bn
  generalize w.alloc _ = w0 at *
  refine HU.out.mono ?_
  rintro e w1 ⟨t, er, q1, q2, q3, d1, d2, d3, rfl, hmt, hb1, hd⟩
  injection hd with h1 h2
  subst h1 h2
  obtain ⟨a, rfl, hab, _, hat⟩ := hmt.n.at_ (k := 0) (r := [.string ⟨#[110]⟩, .int .i64 0, .string ⟨#[45]⟩]) rfl
  have hB1 := hb0.trans (hb1.mono hb0.size)
  have hb2 : Below w1.heap.size w1 (w1.alloc (.cells #[.int .i64 1, .slice q1 0 d1, .slice (some a) 1 d2, .slice q3 0 d3] 26)) := (Below.refl _ _).alloc (Nat.le_refl _) _
  have e2 : w1.cell? ⟨a.block, a.off + 2, none⟩ = some (.string ⟨#[45]⟩) := by
    have := hat 2 (.string ⟨#[45]⟩) rfl
    rw [add_of_add, show 0 * 3 + 2 = 2 from rfl] at this
    exact this
  have e3 : (w1.alloc (.cells #[.int .i64 1, .slice q1 0 d1, .slice (some a) 1 d2, .slice q3 0 d3] 26)).cell? ⟨a.block, a.off + 2, none⟩ = some (.string ⟨#[45]⟩) := (hb2.cell (p := ⟨a.block, a.off + 2, none⟩) hab).trans e2
  have hB2 := hB1.alloc hB1.size (.cells #[.int .i64 1, .slice q1 0 d1, .slice (some a) 1 d2, .slice q3 0 d3] 26)
  have z0 : (((0 : Nat) : Int) == 0) = true := rfl
  clear hat hmt hb1 HU hb2
  go_wp2_with (refine wpList_store_new rfl _ _ _ rfl rfl 26 _ #[.int .i64 1, .slice q1 0 d1, .slice (some a) 1 d2, .slice q3 0 d3] rfl state_size rfl (one_st4 _ _ _ _ _ _ _ _ _ _) ?_)
  go_ret
  exact ⟨rfl, hB2⟩
end Go.Proofs.YtejdhcipmkaboaaDoor
