/- CodeChanges: the changed code in memory. -/
import Derived.Test.YtmfnholhhakgaaaGreatDoorMgd
import Derived.Test.YtmfnholhhakgaaaGreatDoorChg
import Derived.Test.YtmfnholhhakgaaaGreatDoorCtl
import Derived.Deep.RegionHeld3
namespace Go.Proofs.YtmfnholhhakgaaaGreatDoor
open Go Go.Proofs Go.RowKit Go.Sort
open Classical
set_option maxRecDepth 100000
theorem instr_one (l : List InstrD) : ∀ u ∈ l.flatMap InstrD.cells, u.oneCell' = true := fun u hu => by
  obtain ⟨x, _, hx⟩ := List.mem_flatMap.1 hu
  simp only [InstrD.cells, List.mem_cons, List.not_mem_nil, or_false] at hx
  rcases hx with rfl | rfl | rfl | rfl <;> rfl
theorem own_form_pos {w : World} {base : Nat} {e : TypeId} {size : Nat} {v : Value} {n : Nat} {xs : List Value} (h : w.ownsRow base e size v n xs) (hn : 0 < n) : ∃ g c, v = .slice (some ⟨g, 0, none⟩) n c ∧ base ≤ g := by
  rcases h.2 with ⟨_, h0⟩ | ⟨g, cap, cur, h', hb, _⟩
  · omega
  · exact ⟨g, cap, h', hb⟩
theorem flat_set : ∀ (l : List InstrD) (k : Nat) (x : InstrD), k < l.length →
    ((((l.flatMap InstrD.cells).set (k * 4) (.int .i64 x.op)).set (k * 4 + 1) (.int .i64 x.a)).set (k * 4 + 2) (.int .i64 x.b)).set (k * 4 + 3) (.int .i64 x.c) = (l.set k x).flatMap InstrD.cells
  | y :: l, 0, x, _ => by simp [InstrD.cells]
  | y :: l, k + 1, x, h => by
    have ih := flat_set l k x (by simpa using h)
    rw [List.set_cons_succ, List.flatMap_cons, List.flatMap_cons, ← ih]
    have hl : (InstrD.cells y).length = 4 := rfl
    have hs : ∀ (L : List Value) (j : Nat) (v : Value), (InstrD.cells y ++ L).set ((k + 1) * 4 + j) v = InstrD.cells y ++ L.set (k * 4 + j) v := fun L j v => by
      rw [List.set_append_right _ _ (by rw [hl]; omega), hl]
      congr 2
      omega
    have h0 := hs (l.flatMap InstrD.cells) 0 (.int .i64 x.op)
    simp only [Nat.add_zero] at h0
    rw [h0, hs, hs, hs]
/-- The header with other instructions. -/
def hdI (h : CodeH) (g cap : Nat) : CodeH := { h with i := ⟨some ⟨g, 0, none⟩, h.i.n, cap⟩ }
theorem chg_at {w wr : World} {h : CodeH} {c : CodeD} {g cap k : Nat} {x : InstrD} {base : Nat} (H : CodeAt w w.heap.size h c) (hb : Below w.heap.size w wr) (ho : wr.ownsRow base 52 4 (.slice (some ⟨g, 0, none⟩) h.i.n cap) h.i.n ((c.instrs.set k x).flatMap InstrD.cells)) :
    CodeAt wr wr.heap.size (hdI h g cap) (chg c k x) := by
  have H' := H.at hb
  exact
  { i := Reads.of_own ho, p := H'.p, t := H'.t, s := H'.s, g := H'.g, r := H'.r, o := H'.o
    ni := ⟨by rw [chg_len]; exact H.ni.1, H.ni.2⟩, np := H'.np, nt := H'.nt, ns := H'.ns, ng := H'.ng, nr := H'.nr, no := H'.no, zs := H'.zs, wr := H'.wr }
theorem own_set4 {w : World} {base g n cap k : Nat} {l : List InstrD} {x : InstrD} (h : w.ownsRow base 52 4 (.slice (some ⟨g, 0, none⟩) n cap) n (l.flatMap InstrD.cells)) (hk : k < l.length) :
    ((((w.setCell ⟨g, k * 4, none⟩ (.int .i64 x.op)).setCell ⟨g, k * 4 + 1, none⟩ (.int .i64 x.a)).setCell ⟨g, k * 4 + 2, none⟩ (.int .i64 x.b)).setCell ⟨g, k * 4 + 3, none⟩ (.int .i64 x.c)).ownsRow base 52 4 (.slice (some ⟨g, 0, none⟩) n cap) n ((l.set k x).flatMap InstrD.cells) := by
  have h1 := ((((h.stored (k * 4) (.int .i64 x.op)).1.stored (k * 4 + 1) (.int .i64 x.a)).1.stored (k * 4 + 2) (.int .i64 x.b)).1.stored (k * 4 + 3) (.int .i64 x.c)).1
  rw [flat_set l k x hk] at h1
  exact h1
theorem below_set4 {w : World} {B g k : Nat} (x : InstrD) (hg : B ≤ g) : Below B w ((((w.setCell ⟨g, k * 4, none⟩ (.int .i64 x.op)).setCell ⟨g, k * 4 + 1, none⟩ (.int .i64 x.a)).setCell ⟨g, k * 4 + 2, none⟩ (.int .i64 x.b)).setCell ⟨g, k * 4 + 3, none⟩ (.int .i64 x.c)) :=
  ((((Below.refl _ _).setCell hg _).setCell hg _).setCell hg _).setCell hg _
/-- A code's header in block M. -/
structure Box (M : Nat) (h : CodeH) (wr : World) : Prop where
  z : M < wr.heap.size
  c0 : wr.cell? ⟨M, 0, none⟩ = some (.slice h.i.a h.i.n h.i.c)
  c1 : wr.cell? ⟨M, 1, none⟩ = some (.slice h.p.a h.p.n h.p.c)
  c2 : wr.cell? ⟨M, 2, none⟩ = some (.slice h.t.a h.t.n h.t.c)
  c3 : wr.cell? ⟨M, 3, none⟩ = some (.slice h.s.a h.s.n h.s.c)
  c4 : wr.cell? ⟨M, 4, none⟩ = some (.slice h.g.a h.g.n h.g.c)
  c5 : wr.cell? ⟨M, 5, none⟩ = some (.slice h.r.a h.r.n h.r.c)
  c6 : wr.cell? ⟨M, 6, none⟩ = some (.slice h.o.a h.o.n h.o.c)
theorem Box.to {M : Nat} {h : CodeH} {wr wx : World} (H : Box M h wr) (hb : Below (M + 1) wr wx) : Box M h wx :=
  { z := Nat.lt_of_lt_of_le H.z hb.size
    c0 := (hb.cell (p := ⟨M, 0, none⟩) (by simp)).trans H.c0, c1 := (hb.cell (p := ⟨M, 1, none⟩) (by simp)).trans H.c1, c2 := (hb.cell (p := ⟨M, 2, none⟩) (by simp)).trans H.c2, c3 := (hb.cell (p := ⟨M, 3, none⟩) (by simp)).trans H.c3
    c4 := (hb.cell (p := ⟨M, 4, none⟩) (by simp)).trans H.c4, c5 := (hb.cell (p := ⟨M, 5, none⟩) (by simp)).trans H.c5, c6 := (hb.cell (p := ⟨M, 6, none⟩) (by simp)).trans H.c6 }
theorem Box.of {M : Nat} {h : CodeH} {g cap : Nat} {w : World} (hm : w.heap[M]? = some (.cells #[.slice h.i.a h.i.n h.i.c, .slice h.p.a h.p.n h.p.c, .slice h.t.a h.t.n h.t.c, .slice h.s.a h.s.n h.s.c, .slice h.g.a h.g.n h.g.c, .slice h.r.a h.r.n h.r.c, .slice h.o.a h.o.n h.o.c] 30 (0, 0))) :
    Box M (hdI h g cap) (w.setCell ⟨M, 0, none⟩ (.slice (some ⟨g, 0, none⟩) h.i.n cap)) := by
  have h1 := heap_setCell_same w M 0 _ 30 (.slice (some ⟨g, 0, none⟩) h.i.n cap) hm
  have hc := fun i => cell_of_row _ M i _ 30 (0, 0) h1
  exact { z := (Array.getElem?_eq_some_iff.1 h1).1, c0 := hc 0, c1 := hc 1, c2 := hc 2, c3 := hc 3, c4 := hc 4, c5 := hc 5, c6 := hc 6 }
/-- What the walk has behind the append of instructions to a new slice: block M holds the header hd. -/
structure App (N M g cap : Nat) (h hd : CodeH) (x : InstrD) (w w3 : World) (l : List InstrD) : Prop where
  xi : XInv N h x w w3
  m : N + 2 ≤ M
  mg : M < g
  hm : w3.heap[M]? = some (.cells #[.slice hd.i.a hd.i.n hd.i.c, .slice hd.p.a hd.p.n hd.p.c, .slice hd.t.a hd.t.n hd.t.c, .slice hd.s.a hd.s.n hd.s.c, .slice hd.g.a hd.g.n hd.g.c, .slice hd.r.a hd.r.n hd.r.c, .slice hd.o.a hd.o.n hd.o.c] 30 (0, 0))
  o : w3.ownsRow (M + 1) 52 4 (.slice (some ⟨g, 0, none⟩) hd.i.n cap) hd.i.n (l.flatMap InstrD.cells)
/-- .. and behind the stores of the slice and of the instruction y. -/
structure Chd (N M g cap : Nat) (h hd : CodeH) (x : InstrD) (w wr : World) (l : List InstrD) : Prop where
  xi : XInv N h x w wr
  m : N + 2 ≤ M
  mg : M < g
  b : Box M (hdI hd g cap) wr
  o : wr.ownsRow (M + 1) 52 4 (.slice (some ⟨g, 0, none⟩) hd.i.n cap) hd.i.n (l.flatMap InstrD.cells)
theorem Chd.to {N M g cap : Nat} {h hd : CodeH} {x : InstrD} {w wr wx : World} {l : List InstrD} (H : Chd N M g cap h hd x w wr l) (hb : Below (g + 1) wr wx) : Chd N M g cap h hd x w wx l :=
  { xi := H.xi.to (hb.mono (by have := H.m; have := H.mg; omega)), m := H.m, mg := H.mg, b := H.b.to (hb.mono (by have := H.mg; omega)), o := own_at H.o hb (by omega) }
theorem Chd.below {N M g cap : Nat} {h hd : CodeH} {x : InstrD} {w wr wx : World} {l : List InstrD} (H : Chd N M g cap h hd x w wr l) (hb : Below wr.heap.size wr wx) : Chd N M g cap h hd x w wx l :=
  { xi := H.xi.below hb, m := H.m, mg := H.mg, b := H.b.to (hb.mono H.b.z), o := own_below H.o hb }
theorem Chd.z {N M g cap : Nat} {h hd : CodeH} {x : InstrD} {w wr : World} {l : List InstrD} (H : Chd N M g cap h hd x w wr l) : g + 1 ≤ wr.heap.size := by
  rcases H.o.2 with ⟨h', _⟩ | ⟨g', cap', cur, h', _, hg, _⟩
  · simp at h'
  · have : g = g' := by simpa using congrArg (fun v => match v with | Value.slice (some a) _ _ => a.block | _ => 0) h'
    subst this
    exact (Array.getElem?_eq_some_iff.1 hg).1
theorem App.cell {N M g cap : Nat} {h hd : CodeH} {x : InstrD} {w w3 : World} {l : List InstrD} (H : App N M g cap h hd x w w3 l) (j : Nat) (hj : j < hd.i.n * 4) : ∃ v, w3.cell? ⟨g, j, none⟩ = some v := by
  rw [H.o.cellAt j hj, List.getElem?_eq_getElem (by rw [H.o.1]; exact hj)]
  exact ⟨_, rfl⟩
/-- The slice is stored. -/
theorem App.put {N M g cap : Nat} {h hd : CodeH} {x : InstrD} {w w3 : World} {l : List InstrD} (H : App N M g cap h hd x w w3 l) : Chd N M g cap h hd x w (w3.setCell ⟨M, 0, none⟩ (.slice (some ⟨g, 0, none⟩) hd.i.n cap)) l :=
  { xi := H.xi.to ((Below.refl _ _).setCell H.m _), m := H.m, mg := H.mg, b := Box.of H.hm, o := own_setCell30 H.o H.hm (by decide) (.slice (some ⟨g, 0, none⟩) hd.i.n cap) (j := 0) }
/-- An instruction is stored. -/
theorem Chd.set {N M g cap k : Nat} {h hd : CodeH} {x y : InstrD} {w wr : World} {l : List InstrD} (H : Chd N M g cap h hd x w wr l) (hk : k < l.length) :
    Chd N M g cap h hd x w ((((wr.setCell ⟨g, k * 4, none⟩ (.int .i64 y.op)).setCell ⟨g, k * 4 + 1, none⟩ (.int .i64 y.a)).setCell ⟨g, k * 4 + 2, none⟩ (.int .i64 y.b)).setCell ⟨g, k * 4 + 3, none⟩ (.int .i64 y.c)) (l.set k y) := by
  have hb : Below (M + 1) wr ((((wr.setCell ⟨g, k * 4, none⟩ (.int .i64 y.op)).setCell ⟨g, k * 4 + 1, none⟩ (.int .i64 y.a)).setCell ⟨g, k * 4 + 2, none⟩ (.int .i64 y.b)).setCell ⟨g, k * 4 + 3, none⟩ (.int .i64 y.c)) := below_set4 y H.mg
  exact { xi := H.xi.to (hb.mono (by have := H.m; omega)), m := H.m, mg := H.mg, b := H.b.to hb, o := own_set4 H.o hk }
theorem Chd.cell {N M g cap : Nat} {h hd : CodeH} {x : InstrD} {w wr : World} {l : List InstrD} (H : Chd N M g cap h hd x w wr l) (j : Nat) (hj : j < hd.i.n * 4) : ∃ v, wr.cell? ⟨g, j, none⟩ = some v := by
  rw [H.o.cellAt j hj, List.getElem?_eq_getElem (by rw [H.o.1]; exact hj)]
  exact ⟨_, rfl⟩
theorem chg_back {c : CodeD} {k : Nat} {x y : InstrD} (hy : c.instrs[k]? = some y) : (c.instrs.set k x).set k y = c.instrs := by
  rw [List.set_set]
  obtain ⟨hk, he⟩ := List.getElem?_eq_some_iff.1 hy
  rw [← he, List.set_getElem_self]
theorem back_at {w wr : World} {h : CodeH} {c : CodeD} {g cap : Nat} {base : Nat} (H : CodeAt w w.heap.size h c) (hb : Below w.heap.size w wr) (ho : wr.ownsRow base 52 4 (.slice (some ⟨g, 0, none⟩) h.i.n cap) h.i.n (c.instrs.flatMap InstrD.cells)) :
    CodeAt wr wr.heap.size (hdI h g cap) c := by
  have H' := H.at hb
  exact
  { i := Reads.of_own ho, p := H'.p, t := H'.t, s := H'.s, g := H'.g, r := H'.r, o := H'.o
    ni := H.ni, np := H'.np, nt := H'.nt, ns := H'.ns, ng := H'.ng, nr := H'.nr, no := H'.no, zs := H'.zs, wr := H'.wr }
open Classical in
theorem same_refl (a : CodeD) : decide (a = a) = true := decide_eq_true rfl
end Go.Proofs.YtmfnholhhakgaaaGreatDoor
