/- Print: numbers and strings; what it prints. -/
import Derived.Test.YtmfnholhhakgaaaGreatDoorCln
import Derived.Test.YtmfnholhhakgaaaGreatDoorMhf
import Derived.Lib.AppendIntMem
import Derived.Lib.ItoaLen
import Derived.Test.YtmfnholhhakgaaaGreatDoorMhl
section
namespace Go.Proofs.YtmfnholhhakgaaaGreatDoor
open Go Go.Proofs Go.RowKit Go.Sort

/-- The table of powers of ten stands in whatever world that keeps what lies below block B. -/
abbrev Pow (B : Nat) (w : World) : Prop := Lib.TabBelow Tryz.prog B w "internal/strconv.uint64pow10" .u64 Lib.pow10Tab
theorem Pow.later {B : Nat} {w w' : World} (h : Pow B w) (hb : Below B w w') : Pow B w' := fun w'' h'' => h w'' (hb.trans h'')
def itS (n : Int) : ByteArray := ⟨(Lib.itoa n).toArray⟩
def spS (n : Int) : ByteArray := (⟨#[32]⟩ : ByteArray) ++ itS n
/-- The word, and the numbers behind it. -/
def rowS (word : ByteArray) (l : List Int) : ByteArray := l.foldl (fun s n => s ++ spS n) word
theorem rowS_snoc {word : ByteArray} {l : List Int} {k : Nat} {x : Int} (hx : l[k]? = some x) : rowS word (l.take (k + 1)) = rowS word (l.take k) ++ spS x := by
  unfold rowS
  rw [List.take_add_one, hx]
  simp
theorem itS_size (n : Int) (h : I64 n) : (itS n).size ≤ 21 := Lib.itoa_length_le n h.1 h.2
theorem rowS_size (l : List Int) : ∀ (word : ByteArray), (∀ x ∈ l, I64 x) → (rowS word l).size ≤ word.size + 22 * l.length := by
  induction l with
  | nil => intro word _; simp [rowS]
  | cons x l ih =>
    intro word h
    have h1 := ih (word ++ spS x) fun y hy => h y (by simp [hy])
    have h2 := itS_size x (h x (by simp))
    have h3 : (word ++ spS x).size = word.size + (1 + (itS x).size) := by
      rw [ByteArray.size_append]
      unfold spS
      rw [ByteArray.size_append]
      rfl
    have h4 : rowS word (x :: l) = rowS (word ++ spS x) l := rfl
    rw [h4, List.length_cons]
    omega
theorem itoa_any (n : Int) (h : I64 n) (B : Nat) (w : World) (_hB : B ≤ w.heap.size) (ht : Pow B w) :
    Calls Tryz.prog 144 #[.int .i64 n] w fun e w' => e = .returned (.string (itS n)) ∧ Below w.heap.size w w' :=
  (Tryz.strconv_Itoa n h.1 h.2 w (Lib.TabBelow.here ht)).mono fun e w' ⟨he, k, os, hw⟩ => ⟨he, by subst hw; exact Lib.below_grow _ _ (Nat.le_refl _) k os⟩

set_option maxHeartbeats 1000000 in
theorem row_any (word : ByteArray) (l : List Int) (A : Option Addr) (n c B : Nat) (w : World) (h : Reads w B 1 A n (intCells l)) (hn : n = l.length) (hs : n ≤ 140737488351232) (hw : word.size ≤ 140737488351232) (hi : ∀ x ∈ l, I64 x) (hB : B ≤ w.heap.size) (ht : Pow w.heap.size w) :
    Calls Tryz.prog 119 #[.string word, .slice A n c] w fun e w' => e = .returned (.string (rowS word l)) ∧ Below w.heap.size w w' := by
  have HR := Lib.hid h
  have HN := Lib.hid hn
  have HI := Lib.hid hi
  have HT := Lib.hid ht
  clear h hn hi ht
  go_enter Tryz.func119, Tryz.ntmps119
  go_wp2
  go_loopw [0, 9] (fun s i wr => ∃ k : Nat, k ≤ n ∧ i = .int .i64 k ∧ s = .string (rowS word (l.take k)) ∧ Below w.heap.size w wr) (fun _ i _ => n - (intOf i).toNat)
  case atStart => exact ⟨0, by omega, rfl, rfl, Below.refl _ _⟩
  case round =>
    obtain ⟨k, hk, rfl, rfl, hb⟩ := hrel
    have HB := Lib.hid hb
    clear hb
    by_cases hlt : k < n
    · obtain ⟨ad, x, had, hx, hab, c0⟩ := Reads.elem1 (f := Value.int .i64) (HR.out.below (HB.out.mono hB)) HN.out hlt
      have HX := Lib.hid hx
      have HXI := Lib.hid (HI.out x (List.mem_of_getElem? hx))
      rw [had]
      have hz1 : (rowS word (l.take k)).size ≤ 140737488351232 + 22 * 140737488351232 := by
        have := rowS_size (l.take k) word fun y hy => HI.out y (List.mem_of_mem_take hy)
        have h2 : (l.take k).length ≤ k := List.length_take_le _ _
        omega
      have hz2 := itS_size x HXI.out
      clear hx had hab
      go_wp2_with (go_at_call 144; refine (itoa_any x HXI.out w.heap.size _ HB.out.size (HT.out.later HB.out)).mono ?_; rintro e w3 ⟨rfl, hb3⟩; have HB3 := Lib.hid (HB.out.trans (hb3.mono HB.out.size)); clear hb3)
      go_roundw
      case rel => exact ⟨k + 1, by omega, by go_num, by rw [rowS_snoc HX.out]; rfl, HB3.out⟩
      case measure => simp [intOf]; omega
    · obtain rfl : k = n := by omega
      go_wp2
      rw [List.take_of_length_le (by have := HN.out; omega)]
      go_ret
      exact ⟨rfl, HB.out⟩
end Go.Proofs.YtmfnholhhakgaaaGreatDoor
end
section
namespace Go.Proofs.YtmfnholhhakgaaaGreatDoor
open Go Go.Proofs Go.RowKit Go.Sort

def procS (p : ProcD) : ByteArray := bif p.std then rowS ⟨#[80, 82, 79, 67]⟩ [p.entry, p.params, p.type, p.slots] ++ ⟨#[32, 115, 116, 100]⟩ else rowS ⟨#[80, 82, 79, 67]⟩ [p.entry, p.params, p.type, p.slots]
theorem procS_std {p : ProcD} (h : p.std = true) : procS p = rowS ⟨#[80, 82, 79, 67]⟩ [p.entry, p.params, p.type, p.slots] ++ ⟨#[32, 115, 116, 100]⟩ := by unfold procS; rw [h]; rfl
theorem procS_own {p : ProcD} (h : p.std = false) : procS p = rowS ⟨#[80, 82, 79, 67]⟩ [p.entry, p.params, p.type, p.slots] := by unfold procS; rw [h]; rfl
def thunkS (t : ThunkD) : ByteArray := rowS ⟨#[84, 72, 85, 78, 75]⟩ [t.value, t.address, t.desig]
def swS (l : List Int) : ByteArray := rowS ⟨#[83, 87, 73, 84, 67, 72]⟩ l
def strS (s : ByteArray) : ByteArray := (⟨#[83, 84, 82, 73, 78, 71, 32, 34]⟩ ++ s) ++ ⟨#[34]⟩
def realS (rp : RealD → ByteArray) (x : RealD) : ByteArray := ⟨#[82, 69, 65, 76, 32]⟩ ++ rp x
def ownS (n : Int) : ByteArray := rowS ⟨#[79, 87, 78]⟩ [n]
def insN (x : InstrD) : Int := manyN (opK0 x.op) (opK1 x.op) (opK2 x.op)
def insS (x : InstrD) : ByteArray := rowS (opName x.op) ([x.a, x.b, x.c].take (insN x).toNat)
/-- The lines of a code, without their ends. -/
def linesD (rp : RealD → ByteArray) (c : CodeD) : List ByteArray :=
  c.procs.map procS ++ c.thunks.map thunkS ++ c.switches.map swS ++ c.strings.map strS ++ c.reals.map (realS rp) ++ c.owns.map ownS ++ c.instrs.map insS
theorem app_snoc {α : Type} {f : α → ByteArray} {pre : List ByteArray} {l : List α} {k : Nat} {x : α} (hx : l[k]? = some x) : pre ++ (l.take (k + 1)).map f = (pre ++ (l.take k).map f) ++ [f x] := by
  rw [List.take_add_one, hx]
  simp
theorem app_all {α : Type} {f : α → ByteArray} {pre : List ByteArray} {l : List α} {n : Nat} (hn : n = l.length) : pre ++ (l.take n).map f = pre ++ l.map f := by
  rw [List.take_of_length_le (by omega)]

/-- The list that is being made: it is the call's own, and holds the lines ls. -/
structure LiI (H : Nat) (w wr : World) (v : Value) (ls : List ByteArray) : Prop where
  b : Below H w wr
  z : H ≤ wr.heap.size
  r : wr.ownsRow H 9 1 v ls.length (strCells ls)
theorem LiI.start (w : World) : LiI w.heap.size w w (.slice none 0 0) [] := ⟨Below.refl _ _, Nat.le_refl _, World.ownsRow_nil _ _ _ _⟩
theorem LiI.to {H : Nat} {w wr wx : World} {v : Value} {ls : List ByteArray} (L : LiI H w wr v ls) (hb : Below wr.heap.size wr wx) : LiI H w wx v ls :=
  ⟨L.b.trans (hb.mono L.z), Nat.le_trans L.z hb.size, own_below L.r hb⟩
theorem LiI.push {H : Nat} {w wr w5 : World} {v v' : Value} {ls : List ByteArray} {s : ByteArray} (L : LiI H w wr v ls) (ho : w5.ownsRow H 9 1 v' (ls.length + 1) (strCells ls ++ (#[.string s] : Array Value).toList)) (hg : wr.grownBy w5 v.ownBlock) : LiI H w w5 v' (ls ++ [s]) :=
  ⟨L.b.grown hg L.z (fun k hk => (L.r.lt k hk).1), Nat.le_trans L.z hg.size, by
    have e : strCells (ls ++ [s]) = strCells ls ++ (#[.string s] : Array Value).toList := by simp [strCells]
    rw [e]
    simpa using ho⟩
theorem one_str (s : ByteArray) : ∀ u ∈ (#[.string s] : Array Value).toList, u.oneCell' = true := by
  intro u hu
  simp only [List.mem_cons, List.not_mem_nil, or_false] at hu
  subst hu
  rfl
/-- How a new block of numbers is read. -/
theorem Reads.fresh (w : World) (l : List Int) (t : TypeId) : Reads (w.alloc (.cells (intCells l).toArray t)) (w.heap.size + 1) 1 (some ⟨w.heap.size, 0, none⟩) l.length (intCells l) := by
  refine ⟨by simp [intCells], fun _ => ⟨_, rfl, by simp, fun j u hu => ?_⟩⟩
  have := cell_of_row (w.alloc (.cells (intCells l).toArray t)) w.heap.size j _ t (0, 0) (heap_alloc_new w _)
  rw [show Addr.add ⟨w.heap.size, 0, none⟩ j = ⟨w.heap.size, j, none⟩ from by unfold Addr.add; split <;> simp_all]
  rw [this]
  simpa using hu
theorem below2 {B : Nat} (w : World) (o1 o2 : Obj) (h : B ≤ w.heap.size) : Below B w ((w.alloc o1).alloc o2) := ((Below.refl B w).alloc h o1).alloc (by simp; omega) o2
theorem Pow.at {B : Nat} {w w' : World} (h : Pow B w) (hb : Below B w w') (hB : B ≤ w'.heap.size) : Pow w'.heap.size w' := fun w'' h'' => h w'' (hb.trans (h''.mono hB))
/-- The word, and a list of numbers that has just been made. -/
theorem row_new (word : ByteArray) (l : List Int) (W : World) (N n : Nat) (cs : Array Value) (hcs : cs = (intCells l).toArray) (hn : n = l.length) (hN : W.heap.size = N) (hs : n ≤ 1000) (hw : word.size ≤ 1000) (hi : ∀ x ∈ l, I64 x) (B : Nat) (hp : Pow B W) (hB : B ≤ W.heap.size) :
    Calls Tryz.prog 119 #[.string word, .slice (some ⟨N, 0, none⟩) n n] (W.alloc (.cells cs 3)) fun e w' => e = .returned (.string (rowS word l)) ∧ Below W.heap.size W w' := by
  subst hcs hN hn
  have hb : Below W.heap.size W (W.alloc (.cells (intCells l).toArray 3)) := (Below.refl _ W).alloc (Nat.le_refl _) _
  refine (row_any word l _ l.length l.length (W.heap.size + 1) _ (Reads.fresh W l 3) rfl (by omega) (by omega) hi (by simp) (Pow.at hp (hb.mono hB) (by simp; omega))).mono ?_
  rintro e w' ⟨rfl, h⟩
  exact ⟨rfl, hb.trans (h.mono (by simp))⟩
/-- What the closure holds: the code's box. -/
structure CBox (B : Nat) (h : CodeH) (w : World) : Prop where
  lt : B < w.heap.size
  c0 : w.cell? ⟨B, 0, none⟩ = some (.slice h.i.a h.i.n h.i.c)
  c1 : w.cell? ⟨B, 1, none⟩ = some (.slice h.p.a h.p.n h.p.c)
  c2 : w.cell? ⟨B, 2, none⟩ = some (.slice h.t.a h.t.n h.t.c)
  c3 : w.cell? ⟨B, 3, none⟩ = some (.slice h.s.a h.s.n h.s.c)
  c4 : w.cell? ⟨B, 4, none⟩ = some (.slice h.g.a h.g.n h.g.c)
  c5 : w.cell? ⟨B, 5, none⟩ = some (.slice h.r.a h.r.n h.r.c)
  c6 : w.cell? ⟨B, 6, none⟩ = some (.slice h.o.a h.o.n h.o.c)
theorem CBox.below {B : Nat} {h : CodeH} {w wr : World} (C : CBox B h w) (hb : Below w.heap.size w wr) : CBox B h wr :=
  ⟨Nat.lt_of_lt_of_le C.lt hb.size, (hb.cell (p := ⟨B, 0, none⟩) C.lt).trans C.c0, (hb.cell (p := ⟨B, 1, none⟩) C.lt).trans C.c1, (hb.cell (p := ⟨B, 2, none⟩) C.lt).trans C.c2, (hb.cell (p := ⟨B, 3, none⟩) C.lt).trans C.c3,
   (hb.cell (p := ⟨B, 4, none⟩) C.lt).trans C.c4, (hb.cell (p := ⟨B, 5, none⟩) C.lt).trans C.c5, (hb.cell (p := ⟨B, 6, none⟩) C.lt).trans C.c6⟩
/-- The numbers of a well-formed code are an int's. -/
theorem proc_i64 {w : World} {B : Nat} {h : CodeH} {c : CodeD} {x : ProcD} {k : Nat} (H : CodeAt w B h c) (hf : fineB c (largeB h) = true) (hx : c.procs[k]? = some x) : ∀ n ∈ [x.entry, x.params, x.type, x.slots], I64 n := by
  obtain ⟨hl, W⟩ := fine_well hf
  obtain ⟨_, hi, _⟩ := large_sizes hl
  have := W.p x (List.mem_of_getElem? hx)
  have ei := H.ni.1
  unfold procOk wiB tyB leastOf at this
  simp at this
  intro n hn
  simp only [List.mem_cons, List.not_mem_nil, or_false] at hn
  unfold I64
  unfold wrap64 at this
  rcases hn with rfl | rfl | rfl | rfl <;> (split at this <;> omega)
theorem thunk_i64 {w : World} {B : Nat} {h : CodeH} {c : CodeD} {x : ThunkD} {k : Nat} (H : CodeAt w B h c) (hf : fineB c (largeB h) = true) (hx : c.thunks[k]? = some x) : ∀ n ∈ [x.value, x.address, x.desig], I64 n := by
  obtain ⟨hl, W⟩ := fine_well hf
  obtain ⟨_, hi, _⟩ := large_sizes hl
  have := W.t x (List.mem_of_getElem? hx)
  have ei := H.ni.1
  unfold thunkOk placeOk wiB at this
  simp at this
  intro n hn
  simp only [List.mem_cons, List.not_mem_nil, or_false] at hn
  unfold I64
  rcases hn with rfl | rfl | rfl <;> omega
theorem sw_i64 {w : World} {B : Nat} {h : CodeH} {c : CodeD} {x : List Int} {k : Nat} (H : CodeAt w B h c) (hf : fineB c (largeB h) = true) (hx : c.switches[k]? = some x) : ∀ n ∈ x, I64 n := by
  obtain ⟨hl, W⟩ := fine_well hf
  obtain ⟨_, hi, _⟩ := large_sizes hl
  have := W.s x (List.mem_of_getElem? hx)
  have ei := H.ni.1
  intro n hn
  unfold switchOk wiB at this
  simp at this
  have h2 := this.2 n hn
  unfold I64
  omega
theorem own_i64 {w : World} {B : Nat} {h : CodeH} {c : CodeD} {x : Int} {k : Nat} (_ : CodeAt w B h c) (hf : fineB c (largeB h) = true) (hx : c.owns[k]? = some x) : ∀ n ∈ [x], I64 n := by
  obtain ⟨hl, W⟩ := fine_well hf
  have := W.o x (List.mem_of_getElem? hx)
  intro n hn
  simp only [List.mem_cons, List.not_mem_nil, or_false] at hn
  subst hn
  unfold ownOk tyB at this
  simp at this
  unfold I64
  omega
theorem ins_i64 {w : World} {B : Nat} {h : CodeH} {c : CodeD} {x : InstrD} {k : Nat} (H : CodeAt w B h c) (hf : fineB c (largeB h) = true) (hx : c.instrs[k]? = some x) : ∀ n ∈ [x.a, x.b, x.c], I64 n := by
  obtain ⟨h1, h2, h3⟩ := ins_bounds H hf hx
  intro n hn
  simp only [List.mem_cons, List.not_mem_nil, or_false] at hn
  unfold I64
  rcases hn with rfl | rfl | rfl <;> omega
theorem insN_le (x : InstrD) : 0 ≤ insN x ∧ insN x ≤ 3 := by
  unfold insN manyN
  repeat' split
  all_goals omega
end Go.Proofs.YtmfnholhhakgaaaGreatDoor
end
