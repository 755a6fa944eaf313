/- A code as an argument: opened: it lies in memory as a code, each number an int's, each length within the reach. -/
import Derived.Test.YtmfnholhhakgaaaGreatDoorMhc
import Derived.Deep.Slices
import Derived.SizedLaws
import Derived.Carry
import Derived.ProofKit
import Derived.OpenShut
namespace Go.Proofs.YtmfnholhhakgaaaGreatDoor
open Go Go.Proofs Go.RowKit Go.ChangeShapes Go.WideShapes Go.Deep
set_option maxRecDepth 100000

theorem choose_list {α : Type} {p : Nat → α → Prop} : ∀ n, (∀ i, i < n → ∃ y, p i y) → ∃ l : List α, l.length = n ∧ ∀ i y, l[i]? = some y → p i y
  | 0, _ => ⟨[], rfl, by simp⟩
  | n + 1, h => by
    obtain ⟨l, hl, hp⟩ := choose_list n fun i hi => h i (by omega)
    obtain ⟨y, hy⟩ := h n (by omega)
    refine ⟨l ++ [y], by simp [hl], fun i z hz => ?_⟩
    by_cases hi : i < l.length
    · rw [List.getElem?_append_left hi] at hz
      exact hp i z hz
    · have hlt := (List.getElem?_eq_some_iff.1 hz).1
      simp at hlt
      obtain rfl : i = n := by omega
      rw [List.getElem?_append_right (by omega), hl] at hz
      simp at hz
      rw [← hz]
      exact hy
theorem flat_len {α : Type} (f : α → List Value) (s : Nat) (hf : ∀ x, (f x).length = s) : ∀ l : List α, (l.flatMap f).length = l.length * s
  | [] => by simp
  | x :: l => by rw [List.flatMap_cons, List.length_append, hf, flat_len f s hf l, List.length_cons, Nat.succ_mul]; omega

section
variable {H : Type} {enc : TypeId × Value → H} {w : World} {base : Nat} {spare : Nat → Bool} {held : Bool}
/-- Each part of the datum is within the reach. -/
def Sized (t : TypeId) (d : DataW H) : Prop := ∀ m ∈ d.weights Tryz.prog t, m ≤ reachBytes
theorem weightsAll_mem {e : TypeId} {d : DataW H} {m : Nat} : ∀ {l : List (DataW H)}, d ∈ l → m ∈ d.weights Tryz.prog e → m ∈ DataW.weightsAll Tryz.prog e l
  | x :: l, hd, hm => by
    simp only [DataW.weightsAll, List.mem_append]
    rcases List.mem_cons.1 hd with rfl | h
    · exact .inl hm
    · exact .inr (weightsAll_mem h hm)
theorem Sized.slice {t e : TypeId} {elems sp : List (DataW H)} (ht : Tryz.prog.underlying t = some (.slice e)) (h : Sized t (.slice elems sp)) : elems.length * Tryz.prog.bytesOf e ≤ reachBytes ∧ ∀ d ∈ elems, Sized e d := by
  unfold Sized at h
  simp only [DataW.weights, ht, List.mem_cons, List.mem_append] at h
  refine ⟨Nat.le_trans (Nat.mul_le_mul_right _ (Nat.le_add_right _ _)) (h _ (Or.inl rfl)), fun d hd m hm => h m (Or.inr (Or.inl (weightsAll_mem hd hm)))⟩
/-- A slice opened: its elements' cells are those of a list. -/
theorem open_reads {α : Type} (f : α → List Value) (s : Nat) (hs : 0 < s) (hf : ∀ x, (f x).length = s) (R : α → DataW H → Prop) {t e : TypeId} (ht : Tryz.prog.underlying t = some (.slice e)) (hC : Tryz.prog.cellsOf e = s)
    (hel : ∀ n cs x, cs.length = s → DataW.trod enc Tryz.prog w base spare held n e cs = some x → ∃ y, cs = f y ∧ R y x.1)
    {fuel : Nat} {v : Value} {x : DataW H × List MemPlace} (h : DataW.trod enc Tryz.prog w base spare held fuel t [v] = some x) :
    ∃ (a : Option Addr) (n c : Nat) (l : List α), v = .slice a n c ∧ n = l.length ∧ Reads w w.heap.size s a n (l.flatMap f) ∧ (Sized t x.1 → n * Tryz.prog.bytesOf e ≤ reachBytes) ∧ ∀ y ∈ l, ∃ d, R y d ∧ (Sized t x.1 → Sized e d) := by
  rcases open_slice ht h with ⟨hc, hx⟩ | ⟨a, len, cap, m, n, D, Pl, hcs, hb, hl, hm, hmm, hx, hi⟩
  · obtain rfl : v = .slice none 0 0 := by simpa using hc
    exact ⟨none, 0, 0, [], rfl, rfl, ⟨by simp, fun h => absurd h (by omega)⟩, fun _ => by simp, by simp⟩
  · obtain rfl : v = .slice (some a) len cap := by simpa using hcs
    have hml : len ≤ m := by rw [hmm]; split <;> omega
    obtain ⟨l, hll, hp⟩ := choose_list (p := fun i y => w.cells? base (a.add (i * s)) s = some (f y) ∧ R y (D i)) len (fun i hil => by
      obtain ⟨cs', h1, h2⟩ := hi i (by omega)
      rw [hC] at h1
      obtain ⟨_, hlen, _⟩ := World.cells?_some h1
      obtain ⟨y, rfl, hr⟩ := hel _ _ _ hlen h2
      exact ⟨y, h1, hr⟩)
    have hcell : ∀ j u, (l.flatMap f)[j]? = some u → w.cell? (a.add j) = some u := fun j u hu => by
      have hj := (List.getElem?_eq_some_iff.1 hu).1
      rw [flat_len f s hf] at hj
      have hq : j / s < l.length := Nat.div_lt_of_lt_mul (by rw [Nat.mul_comm]; exact hj)
      have hr : j % s < s := Nat.mod_lt _ hs
      have hjj : j = j / s * s + j % s := (Nat.div_add_mod' j s).symm
      rw [hjj, flat_at f s hf l _ _ hr] at hu
      have hy : l[j / s]? = some l[j / s] := List.getElem?_eq_getElem hq
      rw [hy] at hu
      obtain ⟨_, _, hat⟩ := World.cells?_some (hp _ _ hy).1
      rw [hjj, ← add_of_add, hat _ hr]
      exact hu
    refine ⟨some a, len, cap, l, rfl, hll.symm, ⟨by rw [flat_len f s hf, hll], fun hn => ⟨a, rfl, ?_, hcell⟩⟩, fun hz => ?_, fun y hy => ?_⟩
    · have h0 : (l.flatMap f)[0]? = some ((l.flatMap f)[0]'(by rw [flat_len f s hf, hll]; exact Nat.mul_pos hn hs)) := List.getElem?_eq_getElem _
      have := World.block_lt_of_cell? w _ (hcell 0 _ h0)
      rwa [block_of_add] at this
    · rw [hx] at hz
      have := (hz.slice ht).1
      simpa using this
    · obtain ⟨i, hi⟩ := List.mem_iff_getElem?.1 hy
      have hil := (List.getElem?_eq_some_iff.1 hi).1
      refine ⟨D i, (hp i y hi).2, fun hz => ?_⟩
      rw [hx] at hz
      exact (hz.slice ht).2 _ (List.mem_map.2 ⟨i, List.mem_range.2 (by omega), rfl⟩)

theorem cells3 : Tryz.prog.cellsOf 3 = 1 := by kernel_rfl
theorem cells4 : Tryz.prog.cellsOf 4 = 1 := by kernel_rfl
theorem i64_of {n : Int} (h : (Lit.int .i64 n).wf = true) : I64 n := bounds_i64 h
theorem el_int (n : Nat) (cs : List Value) (x : DataW H × List MemPlace) (_hl : cs.length = 1) (h : DataW.trod enc Tryz.prog w base spare held n 3 cs = some x) : ∃ y : Int, cs = [.int .i64 y] ∧ I64 y := by
  obtain ⟨m, rfl, _, hw⟩ := DataW.trod_int Tryz.underlying3 h
  exact ⟨m, rfl, i64_of hw⟩
theorem el_str (n : Nat) (cs : List Value) (x : DataW H × List MemPlace) (_hl : cs.length = 1) (h : DataW.trod enc Tryz.prog w base spare held n 9 cs = some x) : ∃ y : ByteArray, cs = [.string y] ∧ x.1 = .lit (.string y.data.toList) := by
  obtain ⟨s, rfl, rfl, _⟩ := DataW.trod_string Tryz.underlying9 h
  exact ⟨s, rfl, rfl⟩
theorem el_real (n : Nat) (cs : List Value) (x : DataW H × List MemPlace) (hl : cs.length = 2) (h : DataW.trod enc Tryz.prog w base spare held n 99 cs = some x) : ∃ y : RealD, cs = y.cells ∧ I64 y.man ∧ I64 y.exp := by
  obtain ⟨ys, n', _, _, _, hyl, hf⟩ := DataW.trod_struct Tryz.underlying99 h
  match cs, hl with
  | [c0, c1], _ =>
    have h0 : DataW.trod enc Tryz.prog w base spare held n' 3 ((List.drop 0 [c0, c1]).take (Tryz.prog.cellsOf 3)) = some _ := (hf 0 _ rfl).trans (List.getElem?_eq_getElem (by rw [hyl]; decide))
    have h1 : DataW.trod enc Tryz.prog w base spare held n' 3 ((List.drop 1 [c0, c1]).take (Tryz.prog.cellsOf 3)) = some _ := (hf 1 _ rfl).trans (List.getElem?_eq_getElem (by rw [hyl]; decide))
    simp only [cells3, List.drop_zero, List.drop_succ_cons, List.take_succ_cons, List.take_zero] at h0 h1
    obtain ⟨m0, e0, _, w0⟩ := DataW.trod_int Tryz.underlying3 h0
    obtain ⟨m1, e1, _, w1⟩ := DataW.trod_int Tryz.underlying3 h1
    simp only [List.cons.injEq, and_true] at e0 e1
    exact ⟨⟨m0, m1⟩, by rw [e0, e1]; rfl, i64_of w0, i64_of w1⟩
theorem el_thunk (n : Nat) (cs : List Value) (x : DataW H × List MemPlace) (hl : cs.length = 3) (h : DataW.trod enc Tryz.prog w base spare held n 94 cs = some x) : ∃ y : ThunkD, cs = y.cells ∧ True := by
  obtain ⟨ys, n', _, _, _, hyl, hf⟩ := DataW.trod_struct Tryz.underlying94 h
  match cs, hl with
  | [c0, c1, c2], _ =>
    have h0 : DataW.trod enc Tryz.prog w base spare held n' 3 ((List.drop 0 [c0, c1, c2]).take (Tryz.prog.cellsOf 3)) = some _ := (hf 0 _ rfl).trans (List.getElem?_eq_getElem (by rw [hyl]; decide))
    have h1 : DataW.trod enc Tryz.prog w base spare held n' 3 ((List.drop 1 [c0, c1, c2]).take (Tryz.prog.cellsOf 3)) = some _ := (hf 1 _ rfl).trans (List.getElem?_eq_getElem (by rw [hyl]; decide))
    have h2 : DataW.trod enc Tryz.prog w base spare held n' 3 ((List.drop 2 [c0, c1, c2]).take (Tryz.prog.cellsOf 3)) = some _ := (hf 2 _ rfl).trans (List.getElem?_eq_getElem (by rw [hyl]; decide))
    simp only [cells3, List.drop_zero, List.drop_succ_cons, List.take_succ_cons, List.take_zero] at h0 h1 h2
    obtain ⟨m0, e0, _⟩ := DataW.trod_int Tryz.underlying3 h0
    obtain ⟨m1, e1, _⟩ := DataW.trod_int Tryz.underlying3 h1
    obtain ⟨m2, e2, _⟩ := DataW.trod_int Tryz.underlying3 h2
    simp only [List.cons.injEq, and_true] at e0 e1 e2
    exact ⟨⟨m0, m1, m2⟩, by rw [e0, e1, e2]; rfl, trivial⟩
theorem el_instr (n : Nat) (cs : List Value) (x : DataW H × List MemPlace) (hl : cs.length = 4) (h : DataW.trod enc Tryz.prog w base spare held n 52 cs = some x) : ∃ y : InstrD, cs = y.cells ∧ True := by
  obtain ⟨ys, n', _, _, _, hyl, hf⟩ := DataW.trod_struct Tryz.underlying52 h
  match cs, hl with
  | [c0, c1, c2, c3], _ =>
    have h0 : DataW.trod enc Tryz.prog w base spare held n' 3 ((List.drop 0 [c0, c1, c2, c3]).take (Tryz.prog.cellsOf 3)) = some _ := (hf 0 _ rfl).trans (List.getElem?_eq_getElem (by rw [hyl]; decide))
    have h1 : DataW.trod enc Tryz.prog w base spare held n' 3 ((List.drop 1 [c0, c1, c2, c3]).take (Tryz.prog.cellsOf 3)) = some _ := (hf 1 _ rfl).trans (List.getElem?_eq_getElem (by rw [hyl]; decide))
    have h2 : DataW.trod enc Tryz.prog w base spare held n' 3 ((List.drop 2 [c0, c1, c2, c3]).take (Tryz.prog.cellsOf 3)) = some _ := (hf 2 _ rfl).trans (List.getElem?_eq_getElem (by rw [hyl]; decide))
    have h3 : DataW.trod enc Tryz.prog w base spare held n' 3 ((List.drop 3 [c0, c1, c2, c3]).take (Tryz.prog.cellsOf 3)) = some _ := (hf 3 _ rfl).trans (List.getElem?_eq_getElem (by rw [hyl]; decide))
    simp only [cells3, List.drop_zero, List.drop_succ_cons, List.take_succ_cons, List.take_zero] at h0 h1 h2 h3
    obtain ⟨m0, e0, _⟩ := DataW.trod_int Tryz.underlying3 h0
    obtain ⟨m1, e1, _⟩ := DataW.trod_int Tryz.underlying3 h1
    obtain ⟨m2, e2, _⟩ := DataW.trod_int Tryz.underlying3 h2
    obtain ⟨m3, e3, _⟩ := DataW.trod_int Tryz.underlying3 h3
    simp only [List.cons.injEq, and_true] at e0 e1 e2 e3
    exact ⟨⟨m0, m1, m2, m3⟩, by rw [e0, e1, e2, e3]; rfl, trivial⟩
theorem el_proc (n : Nat) (cs : List Value) (x : DataW H × List MemPlace) (hl : cs.length = 5) (h : DataW.trod enc Tryz.prog w base spare held n 78 cs = some x) : ∃ y : ProcD, cs = y.cells ∧ True := by
  obtain ⟨ys, n', _, _, _, hyl, hf⟩ := DataW.trod_struct Tryz.underlying78 h
  match cs, hl with
  | [c0, c1, c2, c3, c4], _ =>
    have h0 : DataW.trod enc Tryz.prog w base spare held n' 3 ((List.drop 0 [c0, c1, c2, c3, c4]).take (Tryz.prog.cellsOf 3)) = some _ := (hf 0 _ rfl).trans (List.getElem?_eq_getElem (by rw [hyl]; decide))
    have h1 : DataW.trod enc Tryz.prog w base spare held n' 3 ((List.drop 1 [c0, c1, c2, c3, c4]).take (Tryz.prog.cellsOf 3)) = some _ := (hf 1 _ rfl).trans (List.getElem?_eq_getElem (by rw [hyl]; decide))
    have h2 : DataW.trod enc Tryz.prog w base spare held n' 3 ((List.drop 2 [c0, c1, c2, c3, c4]).take (Tryz.prog.cellsOf 3)) = some _ := (hf 2 _ rfl).trans (List.getElem?_eq_getElem (by rw [hyl]; decide))
    have h3 : DataW.trod enc Tryz.prog w base spare held n' 3 ((List.drop 3 [c0, c1, c2, c3, c4]).take (Tryz.prog.cellsOf 3)) = some _ := (hf 3 _ rfl).trans (List.getElem?_eq_getElem (by rw [hyl]; decide))
    have h4 : DataW.trod enc Tryz.prog w base spare held n' 4 ((List.drop 4 [c0, c1, c2, c3, c4]).take (Tryz.prog.cellsOf 4)) = some _ := (hf 4 _ rfl).trans (List.getElem?_eq_getElem (by rw [hyl]; decide))
    simp only [cells3, cells4, List.drop_zero, List.drop_succ_cons, List.take_succ_cons, List.take_zero] at h0 h1 h2 h3 h4
    obtain ⟨m0, e0, _⟩ := DataW.trod_int Tryz.underlying3 h0
    obtain ⟨m1, e1, _⟩ := DataW.trod_int Tryz.underlying3 h1
    obtain ⟨m2, e2, _⟩ := DataW.trod_int Tryz.underlying3 h2
    obtain ⟨m3, e3, _⟩ := DataW.trod_int Tryz.underlying3 h3
    obtain ⟨m4, e4, _⟩ := DataW.trod_bool Tryz.underlying4 h4
    simp only [List.cons.injEq, and_true] at e0 e1 e2 e3 e4
    exact ⟨⟨m0, m1, m2, m3, m4⟩, by rw [e0, e1, e2, e3, e4]; rfl, trivial⟩
theorem flat1 {α : Type} (f : α → Value) (l : List α) : (l.flatMap fun x => [f x]) = l.map f := (List.map_eq_flatMap ..).symm
theorem bytes3 : Tryz.prog.bytesOf 3 = 8 := by kernel_rfl
theorem el_ints (n : Nat) (cs : List Value) (x : DataW H × List MemPlace) (hl : cs.length = 1) (h : DataW.trod enc Tryz.prog w base spare held n 28 cs = some x) :
    ∃ y : SH × List Int, cs = [y.1.v] ∧ Reads w w.heap.size 1 y.1.a y.1.n (intCells y.2) ∧ (Sized 28 x.1 → Small y.1.n) := by
  match cs, hl with
  | [v], _ =>
    obtain ⟨a, m, c, l, rfl, _, hr, hz, _⟩ := open_reads (fun n : Int => [Value.int .i64 n]) 1 (by omega) (fun _ => rfl) (fun y _ => I64 y) Tryz.underlying28 cells3 (fun n cs x hl hx => el_int n cs x hl hx) h
    rw [flat1] at hr
    refine ⟨(⟨a, m, c⟩, l), rfl, hr, fun h => ?_⟩
    have := hz h
    rw [bytes3] at this
    unfold Small
    unfold reachBytes at this
    show m ≤ _
    omega
theorem cells22 : Tryz.prog.cellsOf 22 = 1 := by kernel_rfl
theorem cells23 : Tryz.prog.cellsOf 23 = 1 := by kernel_rfl
theorem cells24 : Tryz.prog.cellsOf 24 = 1 := by kernel_rfl
theorem cells25 : Tryz.prog.cellsOf 25 = 1 := by kernel_rfl
theorem cells26 : Tryz.prog.cellsOf 26 = 1 := by kernel_rfl
theorem cells27 : Tryz.prog.cellsOf 27 = 1 := by kernel_rfl
theorem cells28 : Tryz.prog.cellsOf 28 = 1 := by kernel_rfl
theorem small_of {n b : Nat} (hb : decide (1 ≤ b) = true) (h : n * b ≤ reachBytes) : Small n := by
  unfold Small
  unfold reachBytes at h
  have := Nat.le_mul_of_pos_right n (of_decide_eq_true hb)
  omega
theorem Sized.field {parts : List (DataW H)} {fs : Array Field} {t : TypeId} (ht : Tryz.prog.underlying t = some (.struct fs)) (h : Sized t (.agg parts)) {j : Nat} {u : TypeId} {d : DataW H} (hu : (fs.toList.map (·.type))[j]? = some u) (hd : parts[j]? = some d) : Sized u d := by
  intro m hm
  refine h m ?_
  simp only [DataW.weights, ht]
  exact DataW.weights_mem_each hu hd m hm
theorem open_code {r : Reach} {b0 : Nat} {v : Value} {d : DataW H} {p : List MemPlace} (hv : Value.okWide Tryz.prog w r b0 30 v) (h : DataW.Trod enc Tryz.prog w base spare held 30 v d p) (hz : Sized 30 d) :
    ∃ (hh : CodeH) (c : CodeD), v = .agg #[.slice hh.i.a hh.i.n hh.i.c, .slice hh.p.a hh.p.n hh.p.c, .slice hh.t.a hh.t.n hh.t.c, .slice hh.s.a hh.s.n hh.s.c, .slice hh.g.a hh.g.n hh.g.c, .slice hh.r.a hh.r.n hh.r.c, .slice hh.o.a hh.o.n hh.o.c] ∧ CodeAt w w.heap.size hh c := by
  obtain ⟨cs, rfl, hsz⟩ := okWide_struct Tryz.underlying30 hv
  obtain ⟨l⟩ := cs
  match l, hsz.trans (show Tryz.prog.cellsOf 30 = 7 by kernel_rfl) with
  | [c0, c1, c2, c3, c4, c5, c6], _ =>
    obtain ⟨fuel, hf⟩ := h
    obtain ⟨xs, n, _, hx, _, hlen, hg⟩ := DataW.trod_struct Tryz.underlying30 hf
    have hlen7 : xs.length = 7 := hlen
    simp only [Prod.mk.injEq] at hx
    obtain ⟨rfl, _⟩ := hx
    match xs, hlen7 with
    | [x0, x1, x2, x3, x4, x5, x6], _ =>
      have h0 : DataW.trod enc Tryz.prog w base spare held n 22 ((List.drop 0 [c0, c1, c2, c3, c4, c5, c6]).take (Tryz.prog.cellsOf 22)) = some x0 := hg 0 _ rfl
      have h1 : DataW.trod enc Tryz.prog w base spare held n 23 ((List.drop 1 [c0, c1, c2, c3, c4, c5, c6]).take (Tryz.prog.cellsOf 23)) = some x1 := hg 1 _ rfl
      have h2 : DataW.trod enc Tryz.prog w base spare held n 24 ((List.drop 2 [c0, c1, c2, c3, c4, c5, c6]).take (Tryz.prog.cellsOf 24)) = some x2 := hg 2 _ rfl
      have h3 : DataW.trod enc Tryz.prog w base spare held n 25 ((List.drop 3 [c0, c1, c2, c3, c4, c5, c6]).take (Tryz.prog.cellsOf 25)) = some x3 := hg 3 _ rfl
      have h4 : DataW.trod enc Tryz.prog w base spare held n 26 ((List.drop 4 [c0, c1, c2, c3, c4, c5, c6]).take (Tryz.prog.cellsOf 26)) = some x4 := hg 4 _ rfl
      have h5 : DataW.trod enc Tryz.prog w base spare held n 27 ((List.drop 5 [c0, c1, c2, c3, c4, c5, c6]).take (Tryz.prog.cellsOf 27)) = some x5 := hg 5 _ rfl
      have h6 : DataW.trod enc Tryz.prog w base spare held n 28 ((List.drop 6 [c0, c1, c2, c3, c4, c5, c6]).take (Tryz.prog.cellsOf 28)) = some x6 := hg 6 _ rfl
      simp only [cells22, cells23, cells24, cells25, cells26, cells27, cells28, List.drop_zero, List.drop_succ_cons, List.take_succ_cons, List.take_zero] at h0 h1 h2 h3 h4 h5 h6
      have z0 : Sized 22 x0.1 := hz.field Tryz.underlying30 (j := 0) rfl rfl
      have z1 : Sized 23 x1.1 := hz.field Tryz.underlying30 (j := 1) rfl rfl
      have z2 : Sized 24 x2.1 := hz.field Tryz.underlying30 (j := 2) rfl rfl
      have z3 : Sized 25 x3.1 := hz.field Tryz.underlying30 (j := 3) rfl rfl
      have z4 : Sized 26 x4.1 := hz.field Tryz.underlying30 (j := 4) rfl rfl
      have z5 : Sized 27 x5.1 := hz.field Tryz.underlying30 (j := 5) rfl rfl
      have z6 : Sized 28 x6.1 := hz.field Tryz.underlying30 (j := 6) rfl rfl
      obtain ⟨a0, n0, k0, l0, rfl, e0, r0, s0, _⟩ := open_reads InstrD.cells 4 (by omega) (fun _ => rfl) (fun _ _ => True) Tryz.underlying22 (show Tryz.prog.cellsOf 52 = 4 by kernel_rfl) (fun n cs x hl hx => el_instr n cs x hl hx) h0
      obtain ⟨a1, n1, k1, l1, rfl, e1, r1, s1, _⟩ := open_reads ProcD.cells 5 (by omega) (fun _ => rfl) (fun _ _ => True) Tryz.underlying23 (show Tryz.prog.cellsOf 78 = 5 by kernel_rfl) (fun n cs x hl hx => el_proc n cs x hl hx) h1
      obtain ⟨a2, n2, k2, l2, rfl, e2, r2, s2, _⟩ := open_reads ThunkD.cells 3 (by omega) (fun _ => rfl) (fun _ _ => True) Tryz.underlying24 (show Tryz.prog.cellsOf 94 = 3 by kernel_rfl) (fun n cs x hl hx => el_thunk n cs x hl hx) h2
      obtain ⟨a3, n3, k3, l3, rfl, e3, r3, s3, q3⟩ := open_reads (fun y : SH × List Int => [y.1.v]) 1 (by omega) (fun _ => rfl) (fun y d => Reads w w.heap.size 1 y.1.a y.1.n (intCells y.2) ∧ (Sized 28 d → Small y.1.n)) Tryz.underlying25 cells28 (fun n cs x hl hx => el_ints n cs x hl hx) h3
      obtain ⟨a4, n4, k4, l4, rfl, e4, r4, s4, q4⟩ := open_reads (fun y : ByteArray => [Value.string y]) 1 (by omega) (fun _ => rfl) (fun y d => d = .lit (.string y.data.toList)) Tryz.underlying26 (show Tryz.prog.cellsOf 9 = 1 by kernel_rfl) (fun n cs x hl hx => el_str n cs x hl hx) h4
      obtain ⟨a5, n5, k5, l5, rfl, e5, r5, s5, q5⟩ := open_reads RealD.cells 2 (by omega) (fun _ => rfl) (fun y _ => I64 y.man ∧ I64 y.exp) Tryz.underlying27 (show Tryz.prog.cellsOf 99 = 2 by kernel_rfl) (fun n cs x hl hx => el_real n cs x hl hx) h5
      obtain ⟨a6, n6, k6, l6, rfl, e6, r6, s6, _⟩ := open_reads (fun n : Int => [Value.int .i64 n]) 1 (by omega) (fun _ => rfl) (fun y _ => I64 y) Tryz.underlying28 cells3 (fun n cs x hl hx => el_int n cs x hl hx) h6
      rw [flat1] at r3 r4 r6
      refine ⟨⟨⟨a0, n0, k0⟩, ⟨a1, n1, k1⟩, ⟨a2, n2, k2⟩, ⟨a3, n3, k3⟩, ⟨a4, n4, k4⟩, ⟨a5, n5, k5⟩, ⟨a6, n6, k6⟩⟩, ⟨l0, l1, l2, l3.map (·.2), l4, l5, l6⟩, rfl,
        { i := r0, p := r1, t := r2, s := ⟨l3.map (·.1), by rw [List.map_map]; exact r3, by simp, fun k x l hx hl => ?_⟩, g := r4, r := r5, o := r6
          ni := ⟨e0, small_of (by kernel_rfl) (s0 z0)⟩, np := ⟨e1, small_of (by kernel_rfl) (s1 z1)⟩, nt := ⟨e2, small_of (by kernel_rfl) (s2 z2)⟩, ns := ⟨by simpa using e3, small_of (by kernel_rfl) (s3 z3)⟩, ng := ⟨e4, small_of (by kernel_rfl) (s4 z4)⟩, nr := ⟨e5, small_of (by kernel_rfl) (s5 z5)⟩, no := ⟨e6, small_of (by kernel_rfl) (s6 z6)⟩
          zs := fun s hs => ?_, wr := fun x hx => ?_ }⟩
      · rw [List.getElem?_map] at hx hl
        obtain ⟨y, hy, rfl⟩ := Option.map_eq_some_iff.1 hx
        rw [hy] at hl
        obtain rfl := Option.some.inj hl
        obtain ⟨d, ⟨h1, h2⟩, h3⟩ := q3 y (List.mem_of_getElem? hy)
        exact ⟨h1, h2 (h3 z3)⟩
      · obtain ⟨d, rfl, h3⟩ := q4 s hs
        have := h3 z4 s.data.toList.length (by simp [DataW.weights])
        unfold Small
        unfold reachBytes at this
        simpa using this
      · obtain ⟨d, h1, _⟩ := q5 x hx
        exact h1
end
end Go.Proofs.YtmfnholhhakgaaaGreatDoor
