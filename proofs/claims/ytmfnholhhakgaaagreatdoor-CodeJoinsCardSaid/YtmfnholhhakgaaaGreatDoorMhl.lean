/- Join: the code that it returns. -/
import Derived.Test.YtmfnholhhakgaaaGreatDoorMhk
section
namespace Go.Proofs.YtmfnholhhakgaaaGreatDoor
open Go Go.Proofs Go.RowKit Go.Sort

/-- H: the heap's size ahead of the region. -/
def WPred (O Y H : Nat) (v3 src : Value) (l : List Int) (n : Nat) (xs : List Value) (i : Nat) (v : Value) (w : World) : Prop :=
  match i with
  | 0 => v = .pointer (some ⟨O, 3, none⟩)
  | 1 => v = v3
  | 2 => v = src
  | 3 => w.ownsRow H 3 1 v l.length (intCells l)
  | 4 => ∃ (m : Nat) (x : SH), v = .slice (some ⟨m, 0, none⟩) 1 1 ∧ H ≤ m ∧ w.heap[m]? = some (.cells #[x.v] 28 (0, 0)) ∧ w.ownsRow H 3 1 x.v l.length (intCells l) ∧ x.n = l.length
  | 5 => ∃ x : SH, w.ownsRow (Y + 2) 28 1 v (n + 1) (xs ++ [x.v]) ∧ w.ownsRow H 3 1 x.v l.length (intCells l) ∧ x.n = l.length
  | 6 => v = .pointer (some ⟨O, 3, none⟩)
  | _ => True
def WRel (v3 : Value) (i : Nat) (w w' : World) : Prop := (i ≠ 5 → Below w.heap.size w w') ∧ w.grownBy w' v3.ownBlock
theorem own_high {w w' : World} {H : Nat} {e : TypeId} {size : Nat} {v v3 : Value} {n : Nat} {xs : List Value} (hv : ∀ k, v3.ownBlock = some k → k < H) (h : w.ownsRow H e size v n xs) (hg : w.grownBy w' v3.ownBlock) : w'.ownsRow H e size v n xs := by
  refine h.kept hg ?_
  cases hb : v.ownBlock with
  | none => exact .inl rfl
  | some k =>
    right
    intro e1
    have h1 := (h.lt k hb).1
    have h2 := hv k e1.symm
    omega
theorem WPred.stab {O Y H : Nat} {v3 src : Value} {l : List Int} {n : Nat} {xs : List Value} (hv : ∀ k, v3.ownBlock = some k → k < H) (i j : Nat) (v : Value) (w w' : World) (hij : i ≠ j) (hp : WPred O Y H v3 src l n xs i v w) (hr : WRel v3 j w w') : WPred O Y H v3 src l n xs i v w' := by
  unfold WPred at *
  split <;> (try exact hp)
  · exact own_high hv hp hr.2
  · obtain ⟨m, x, e, hm, hc, ho, hn⟩ := hp
    exact ⟨m, x, e, hm, (hr.2.block m (Array.getElem?_eq_some_iff.1 hc).1 (fun e => by have := hv m e.symm; omega)).trans hc, own_high hv ho hr.2, hn⟩
  · obtain ⟨x, h1, h2, hn⟩ := hp
    have hb := hr.1 (Ne.symm hij)
    exact ⟨x, own_below h1 hb, own_below h2 hb, hn⟩
  · trivial

theorem op_bs25 {o : Oper} {a : Act} {w : World} {K : Act → World → Prop} {Q : Exit → Act → World → Prop} {x : Nat} (ho : o.op = .buildSlice 25 1 #[(0, .tmp x)]) {s : SH} (hx : a.tmps.getD x undef = s.v)
    (h : K (a.put o.dst (.slice (some ⟨w.heap.size, 0, none⟩) 1 1)) (w.alloc (.cells #[s.v] 28))) : o.wp Tryz.prog a w K Q := by
  unfold SH.v at *
  simp only [Array.getD_eq_getD_getElem?] at hx
  have hu := Tryz.underlying25
  have hs := Tryz.sizeOf28
  have hz := Tryz.zeroValue28
  unfold Oper.wp
  simp [execOp, ho, hx, go_sem, hs, hz]
  exact h
theorem op_store25 {o : Oper} {a : Act} {w : World} {K : Act → World → Prop} {Q : Exit → Act → World → Prop} {x y : Nat} (ho : o.op = .store 25 (.tmp x) (.tmp y)) {O : Nat} {v v0 : Value} (hx : a.tmps.getD x undef = .pointer (some ⟨O, 3, none⟩)) (hy : a.tmps.getD y undef = v) (hs : IsSlice v)
    (hc : w.cell? ⟨O, 3, none⟩ = some v0) (hf : w.frozen? ⟨O, 3, none⟩ = false) (h : K (a.put o.dst undef) (w.setCell ⟨O, 3, none⟩ v)) : o.wp Tryz.prog a w K Q := by
  obtain ⟨a0, n0, c0, rfl⟩ := hs
  simp only [Array.getD_eq_getD_getElem?] at hx hy
  have hu := Tryz.underlying25
  have hsz := Tryz.sizeOf25
  have ha := Tryz.isAgg25
  unfold Oper.wp
  simp [execOp, ho, hx, hy, go_sem, hsz, hc, hf]
  exact h
end Go.Proofs.YtmfnholhhakgaaaGreatDoor
end
section
namespace Go.Proofs.YtmfnholhhakgaaaGreatDoor
open Go Go.Proofs Go.RowKit Go.Sort

theorem one_sh (z : SH) : ∀ u ∈ (#[z.v] : Array Value).toList, u.oneCell' = true := by
  intro u hu
  simp only [List.mem_cons, List.not_mem_nil, or_false] at hu
  subst hu
  rfl
theorem one_int1 (n : Int) : ∀ u ∈ (#[.int .i64 n] : Array Value).toList, u.oneCell' = true := by
  intro u hu
  simp only [List.mem_cons, List.not_mem_nil, or_false] at hu
  subst hu
  rfl
theorem jsw_push {Y O B : Nat} {w u : World} {v0 v1 v2 v3 v4 v5 v6 t : Value} {n0 n1 n2 n3 n4 n5 n6 m : Nat} {x0 x1 x2 x3 x4 x5 x6 ys : List Value} {sh : List SH} {z : SH} {ls ls' : List (List Int)} {l : List Int}
    (J : JOut (Y + 1) O w v0 v1 v2 v3 v4 v5 v6 n0 n1 n2 n3 n4 n5 n6 x0 x1 x2 x3 x4 x5 x6) (HJ : JSw Y w sh ls) (_ht : u.ownsRow (Y + 2) 28 1 t m ys) (hg : w.grownBy u v3.ownBlock) (hy : Y + 2 ≤ B)
    (hz : u.ownsRow B 3 1 z.v l.length (intCells l)) (hn : z.n = l.length) (hl : ls' = ls ++ [l]) : JSw Y (u.setCell ⟨O, 3, none⟩ t) (sh ++ [z]) ls' := by
  subst hl
  have hO : u.heap[O]? = some (.cells #[v0, v1, v2, v3, v4, v5, v6] 30 (0, 0)) := (hg.block O (Array.getElem?_eq_some_iff.1 J.o).1 (fun e => own_ne30 J.r3 J.o (by decide) e.symm)).trans J.o
  have H1 : JSw Y u sh ls := HJ.map fun v n xs h => own_kept_ty h J.r3 (by decide) hg
  have H2 : JSw Y u (sh ++ [z]) (ls ++ [l]) := H1.snoc (own_mono hz hy) hn
  exact H2.map fun v n xs h => own_setCell30 h hO (by decide) t
theorem take_snoc_of {α : Type} {l : List α} {k : Nat} {x : α} (hx : l[k]? = some x) : l.take (k + 1) = l.take k ++ [x] := by
  rw [List.take_add_one, hx]
  rfl
theorem mv_snoc {f : Int → Int} {x : List Int} {j : Nat} {y : Int} (hy : x[j]? = some y) : intCells ((x.take (j + 1)).map f) = intCells ((x.take j).map f) ++ #[.int .i64 (f y)].toList := by
  rw [take_snoc_of hy]
  simp [intCells]
theorem sw_snoc {f : List Int → List Int} {ls ms : List (List Int)} {k : Nat} {x : List Int} (hx : ms[k]? = some x) : ls ++ (ms.take (k + 1)).map f = (ls ++ (ms.take k).map f) ++ [f x] := by
  rw [take_snoc_of hx]
  simp
/-- The places of a switch of a well-formed code. -/
theorem sw_bound {w : World} {B : Nat} {h : CodeH} {c : CodeD} {x : List Int} {k : Nat} (H : CodeAt w B h c) (hf : fineB c (largeB h) = true) (hx : c.switches[k]? = some x) : ∀ y ∈ x, y ≤ 1000000 := by
  obtain ⟨hl, W⟩ := fine_well hf
  obtain ⟨_, hi, _⟩ := large_sizes hl
  have := W.s x (List.mem_of_getElem? hx)
  have ei := H.ni.1
  intro y hy
  unfold switchOk wiB at this
  simp at this
  have h2 := this.2 y hy
  omega
theorem sw_length {w : World} {B : Nat} {h : CodeH} {c : CodeD} (_H : CodeAt w B h c) (hf : fineB c (largeB h) = true) : ∀ x ∈ c.switches, x.length ≤ 2000 := by
  obtain ⟨hl, W⟩ := fine_well hf
  intro x hx
  have := W.s x hx
  unfold switchOk wiB at this
  simp at this
  omega
/-- A row that is owned is read below the heap's end. -/
theorem Reads.of_sh {w : World} {base : Nat} {e : TypeId} {size n : Nat} {z : SH} {xs : List Value} (h : w.ownsRow base e size z.v n xs) (hn : z.n = n) : Reads w w.heap.size size z.a z.n xs := by
  subst hn
  exact Reads.of_own (c := z.c) h
/-- The seven fields stored. -/
def set7v (w : World) (O : Nat) (v0 v1 v2 v3 v4 v5 v6 : Value) : World :=
  (((((((w.setCell { block := O, off := 0 } v0).setCell { block := O, off := 1 } v1).setCell { block := O, off := 2 } v2).setCell { block := O, off := 3 } v3).setCell { block := O, off := 4 } v4).setCell { block := O, off := 5 } v5).setCell { block := O, off := 6 } v6)
theorem set7v_heap {w : World} {O : Nat} {a0 a1 a2 a3 a4 a5 a6 : Value} (v0 v1 v2 v3 v4 v5 v6 : Value) {fr : Nat × Nat} (ho : w.heap[O]? = some (.cells #[a0, a1, a2, a3, a4, a5, a6] 30 fr)) :
    (set7v w O v0 v1 v2 v3 v4 v5 v6).heap[O]? = some (.cells #[v0, v1, v2, v3, v4, v5, v6] 30 fr) := by
  have h0 := heap_setCell_at (j := 0) ho v0
  have h1 := heap_setCell_at (j := 1) h0 v1
  have h2 := heap_setCell_at (j := 2) h1 v2
  have h3 := heap_setCell_at (j := 3) h2 v3
  have h4 := heap_setCell_at (j := 4) h3 v4
  have h5 := heap_setCell_at (j := 5) h4 v5
  have h6 := heap_setCell_at (j := 6) h5 v6
  simp only [List.setIfInBounds_toArray, List.set_cons_succ, List.set_cons_zero] at h6
  exact h6
theorem set7v_own {w : World} {base : Nat} {e : TypeId} {size : Nat} {v : Value} {n : Nat} {xs : List Value} {O : Nat} (v0 v1 v2 v3 v4 v5 v6 : Value) {cs : Array Value} {fr : Nat × Nat} (ho : w.heap[O]? = some (.cells cs 30 fr)) (h : w.ownsRow base e size v n xs) (hne : 30 ≠ e) : (set7v w O v0 v1 v2 v3 v4 v5 v6).ownsRow base e size v n xs := by
  have h0 := heap_setCell_at (j := 0) ho v0
  have h1 := heap_setCell_at (j := 1) h0 v1
  have h2 := heap_setCell_at (j := 2) h1 v2
  have h3 := heap_setCell_at (j := 3) h2 v3
  have h4 := heap_setCell_at (j := 4) h3 v4
  have h5 := heap_setCell_at (j := 5) h4 v5
  have k0 := own_setCell30 (j := 0) h ho hne v0
  have k1 := own_setCell30 (j := 1) k0 h0 hne v1
  have k2 := own_setCell30 (j := 2) k1 h1 hne v2
  have k3 := own_setCell30 (j := 3) k2 h2 hne v3
  have k4 := own_setCell30 (j := 4) k3 h3 hne v4
  have k5 := own_setCell30 (j := 5) k4 h4 hne v5
  have k6 := own_setCell30 (j := 6) k5 h5 hne v6
  exact k6
theorem set7v_below {B : Nat} {w0 w : World} {O : Nat} (v0 v1 v2 v3 v4 v5 v6 : Value) (h : Below B w0 w) (hO : B ≤ O) : Below B w0 (set7v w O v0 v1 v2 v3 v4 v5 v6) :=
  ((((((h.setCell (p := ⟨O, 0, none⟩) hO v0).setCell (p := ⟨O, 1, none⟩) hO v1).setCell (p := ⟨O, 2, none⟩) hO v2).setCell (p := ⟨O, 3, none⟩) hO v3).setCell (p := ⟨O, 4, none⟩) hO v4).setCell (p := ⟨O, 5, none⟩) hO v5).setCell (p := ⟨O, 6, none⟩) hO v6
/-- Whether a code is too large, by its data. -/
def largeD (c : CodeD) : Bool := decide (c.instrs.length = 0 ∨ 20000 < c.instrs.length ∨ 2000 < c.procs.length ∨ 2000 < c.thunks.length ∨ 2000 < c.switches.length ∨ 2000 < c.strings.length ∨ 2000 < c.reals.length ∨ 2000 < c.owns.length)
theorem largeD_of {w : World} {B : Nat} {h : CodeH} {c : CodeD} (H : CodeAt w B h c) : largeB h = largeD c := by
  unfold largeB largeD
  rw [H.ni.1, H.np.1, H.nt.1, H.ns.1, H.ng.1, H.nr.1, H.no.1]
/-- What Join answers for two codes that Check takes. -/
def JoinPost (h : CodeH) (a b : CodeD) (w : World) (e : Ending) (w' : World) : Prop :=
  Below w.heap.size w w' ∧ ((largeD (joinD h a b) = true ∧ e = .returned (.tuple #[.agg #[.slice none 0 0, .slice none 0 0, .slice none 0 0, .slice none 0 0, .slice none 0 0, .slice none 0 0, .slice none 0 0], .int .i64 2])) ∨
    (largeD (joinD h a b) = false ∧ ∃ z : CodeH, e = .returned (.tuple #[z.v, .int .i64 0]) ∧ CodeAt w' w'.heap.size z (joinD h a b)))
/-- The code that is made, as data: the rows, and those of the switches. -/
theorem joined_at {Y base : Nat} {w : World} {d : CodeD} {z0 z1 z2 z3 z4 z5 z6 : SH} {sh : List SH}
    (r0 : w.ownsRow base 52 4 z0.v d.instrs.length (d.instrs.flatMap InstrD.cells)) (r1 : w.ownsRow base 78 5 z1.v d.procs.length (d.procs.flatMap ProcD.cells)) (r2 : w.ownsRow base 94 3 z2.v d.thunks.length (d.thunks.flatMap ThunkD.cells))
    (r3 : w.ownsRow base 28 1 z3.v d.switches.length (sh.map SH.v)) (r4 : w.ownsRow base 9 1 z4.v d.strings.length (strCells d.strings)) (r5 : w.ownsRow base 99 2 z5.v d.reals.length (d.reals.flatMap RealD.cells)) (r6 : w.ownsRow base 3 1 z6.v d.owns.length (intCells d.owns))
    (HJ : JSw Y w sh d.switches) (e0 : z0.n = d.instrs.length) (e1 : z1.n = d.procs.length) (e2 : z2.n = d.thunks.length) (e3 : z3.n = d.switches.length) (e4 : z4.n = d.strings.length) (e5 : z5.n = d.reals.length) (e6 : z6.n = d.owns.length)
    (s0 : Small d.instrs.length) (s1 : Small d.procs.length) (s2 : Small d.thunks.length) (s3 : Small d.switches.length) (s4 : Small d.strings.length) (s5 : Small d.reals.length) (s6 : Small d.owns.length) (ss : ∀ l ∈ d.switches, Small l.length) (zs : ∀ s ∈ d.strings, Small s.size) (zr : ∀ x ∈ d.reals, I64 x.man ∧ I64 x.exp) :
    CodeAt w w.heap.size ⟨z0, z1, z2, z3, z4, z5, z6⟩ d :=
  { i := Reads.of_sh r0 e0, p := Reads.of_sh r1 e1, t := Reads.of_sh r2 e2
    s := ⟨sh, Reads.of_sh r3 e3, HJ.len, fun k x l hx hl => ⟨Reads.of_sh (HJ.own k x l hx hl).1 (HJ.own k x l hx hl).2, by rw [(HJ.own k x l hx hl).2]; exact ss l (List.mem_of_getElem? hl)⟩⟩
    g := Reads.of_sh r4 e4, r := Reads.of_sh r5 e5, o := Reads.of_sh r6 e6
    ni := ⟨e0, e0 ▸ s0⟩, np := ⟨e1, e1 ▸ s1⟩, nt := ⟨e2, e2 ▸ s2⟩, ns := ⟨e3, e3 ▸ s3⟩, ng := ⟨e4, e4 ▸ s4⟩, nr := ⟨e5, e5 ▸ s5⟩, no := ⟨e6, e6 ▸ s6⟩
    zs := zs, wr := zr }
end Go.Proofs.YtmfnholhhakgaaaGreatDoor
end
section
namespace Go.Proofs.YtmfnholhhakgaaaGreatDoor
open Go Go.Proofs Go.RowKit Go.Sort

theorem jI_all {h : CodeH} {a b : CodeD} {n : Nat} (hn : n = b.instrs.length) : jI h a b n = (joinD h a b).instrs.flatMap InstrD.cells := by
  unfold jI joinD
  rw [List.take_of_length_le (by omega)]
theorem jP_all {h : CodeH} {a b : CodeD} {n : Nat} (hn : n = b.procs.length) : jP h a b n = (joinD h a b).procs.flatMap ProcD.cells := by
  unfold jP joinD
  rw [List.take_of_length_le (by omega)]
theorem jT_all {h : CodeH} {a b : CodeD} {n : Nat} (hn : n = b.thunks.length) : jT h a b n = (joinD h a b).thunks.flatMap ThunkD.cells := by
  unfold jT joinD
  rw [List.take_of_length_le (by omega)]
set_option maxHeartbeats 1000000 in
theorem joined_fin {N Y F O Ba Bb : Nat} {h g : CodeH} {w wo w6 wa wb : World} {z0 z1 z2 z3 z4 z5 z6 : SH} {sh : List SH} {a b : CodeD}
    (L : LInv N Y F O h g w wo z0.v z1.v z2.v z3.v z4.v z5.v z6.v (h.i.n + g.i.n) (h.p.n + g.p.n) (h.t.n + g.t.n) (h.s.n + g.s.n) (h.g.n + g.g.n) (h.r.n + g.r.n) (h.o.n + g.o.n) (jI h a b g.i.n) (jP h a b g.p.n) (jT h a b g.t.n) (sh.map SH.v) (strCells a.strings ++ strCells b.strings) (a.reals.flatMap RealD.cells ++ b.reals.flatMap RealD.cells) (intCells a.owns ++ intCells b.owns))
    (J : JSw Y wo sh (a.switches ++ b.switches.map (List.map (mv h.i.n)))) (Ha : CodeAt wa Ba h a) (Hb : CodeAt wb Bb g b) (fa : fineB a (largeB h) = true) (fb : fineB b (largeB g) = true)
    (hn : z0.n = h.i.n + g.i.n ∧ z1.n = h.p.n + g.p.n ∧ z2.n = h.t.n + g.t.n ∧ z3.n = h.s.n + g.s.n ∧ z4.n = h.g.n + g.g.n ∧ z5.n = h.r.n + g.r.n ∧ z6.n = h.o.n + g.o.n)
    (hb : Below wo.heap.size wo w6) (hq : w6.heap[N + 2]? = some (.cells #[.slice none 0 0, .slice none 0 0, .slice none 0 0, .slice none 0 0, .slice none 0 0, .slice none 0 0, .slice none 0 0] 30 (0, 0))) :
    CodeAt (set7v w6 (N + 2) z0.v z1.v z2.v z3.v z4.v z5.v z6.v) (set7v w6 (N + 2) z0.v z1.v z2.v z3.v z4.v z5.v z6.v).heap.size ⟨z0, z1, z2, z3, z4, z5, z6⟩ (joinD h a b) := by
  obtain ⟨n0, n1, n2, n3, n4, n5, n6⟩ := hn
  have k0 := Ha.ni; have k1 := Ha.np; have k2 := Ha.nt; have k3 := Ha.ns; have k4 := Ha.ng; have k5 := Ha.nr; have k6 := Ha.no
  have m0 := Hb.ni; have m1 := Hb.np; have m2 := Hb.nt; have m3 := Hb.ns; have m4 := Hb.ng; have m5 := Hb.nr; have m6 := Hb.no
  obtain ⟨_, i0, i1, i2, i3, i4, i5, i6⟩ := large_sizes (fine_well fa).1
  obtain ⟨_, j0, j1, j2, j3, j4, j5, j6⟩ := large_sizes (fine_well fb).1
  have e0 : (joinD h a b).instrs.length = h.i.n + g.i.n := by simp [joinD]; omega
  have e1 : (joinD h a b).procs.length = h.p.n + g.p.n := by simp [joinD]; omega
  have e2 : (joinD h a b).thunks.length = h.t.n + g.t.n := by simp [joinD]; omega
  have e3 : (joinD h a b).switches.length = h.s.n + g.s.n := by simp [joinD]; omega
  have e4 : (joinD h a b).strings.length = h.g.n + g.g.n := by simp [joinD]; omega
  have e5 : (joinD h a b).reals.length = h.r.n + g.r.n := by simp [joinD]; omega
  have e6 : (joinD h a b).owns.length = h.o.n + g.o.n := by simp [joinD]; omega
  have r0 := set7v_own z0.v z1.v z2.v z3.v z4.v z5.v z6.v hq (own_below L.j.r0 hb) (by decide)
  have r1 := set7v_own z0.v z1.v z2.v z3.v z4.v z5.v z6.v hq (own_below L.j.r1 hb) (by decide)
  have r2 := set7v_own z0.v z1.v z2.v z3.v z4.v z5.v z6.v hq (own_below L.j.r2 hb) (by decide)
  have r3 := set7v_own z0.v z1.v z2.v z3.v z4.v z5.v z6.v hq (own_below L.j.r3 hb) (by decide)
  have r4 := set7v_own z0.v z1.v z2.v z3.v z4.v z5.v z6.v hq (own_below L.j.r4 hb) (by decide)
  have r5 := set7v_own z0.v z1.v z2.v z3.v z4.v z5.v z6.v hq (own_below L.j.r5 hb) (by decide)
  have r6 := set7v_own z0.v z1.v z2.v z3.v z4.v z5.v z6.v hq (own_below L.j.r6 hb) (by decide)
  have HJ : JSw Y (set7v w6 (N + 2) z0.v z1.v z2.v z3.v z4.v z5.v z6.v) sh (joinD h a b).switches := (J.below hb).map fun v n xs h => set7v_own z0.v z1.v z2.v z3.v z4.v z5.v z6.v hq h (by decide)
  rw [jI_all m0.1, ← e0] at r0
  rw [jP_all m1.1, ← e1] at r1
  rw [jT_all m2.1, ← e2] at r2
  rw [← e3] at r3
  rw [show strCells a.strings ++ strCells b.strings = strCells (joinD h a b).strings from by simp [joinD, strCells], ← e4] at r4
  rw [show a.reals.flatMap RealD.cells ++ b.reals.flatMap RealD.cells = (joinD h a b).reals.flatMap RealD.cells from by simp [joinD], ← e5] at r5
  rw [show intCells a.owns ++ intCells b.owns = intCells (joinD h a b).owns from by simp [joinD, intCells], ← e6] at r6
  refine joined_at r0 r1 r2 r3 r4 r5 r6 HJ (n0.trans e0.symm) (n1.trans e1.symm) (n2.trans e2.symm) (n3.trans e3.symm) (n4.trans e4.symm) (n5.trans e5.symm) (n6.trans e6.symm) ?_ ?_ ?_ ?_ ?_ ?_ ?_ ?_ ?_ ?_
  iterate 7 (unfold Small; omega)
  · intro l hl
    have h1 := sw_length Ha fa
    have h2 := sw_length Hb fb
    unfold joinD at hl
    simp only [List.mem_append, List.mem_map] at hl
    unfold Small
    rcases hl with hl | ⟨x, hx, rfl⟩
    · have := h1 l hl; omega
    · have := h2 x hx; rw [List.length_map]; omega
  · intro s hs
    unfold joinD at hs
    simp only [List.mem_append] at hs
    rcases hs with hs | hs
    · exact Ha.zs s hs
    · exact Hb.zs s hs
  · intro x hx
    unfold joinD at hx
    simp only [List.mem_append] at hx
    rcases hx with hx | hx
    · exact Ha.wr x hx
    · exact Hb.wr x hx
theorem largeD_join {h g : CodeH} {wa wb : World} {Ba Bb : Nat} {a b : CodeD} {z0 z1 z2 z3 z4 z5 z6 : SH} (Ha : CodeAt wa Ba h a) (Hb : CodeAt wb Bb g b)
    (hn : z0.n = h.i.n + g.i.n ∧ z1.n = h.p.n + g.p.n ∧ z2.n = h.t.n + g.t.n ∧ z3.n = h.s.n + g.s.n ∧ z4.n = h.g.n + g.g.n ∧ z5.n = h.r.n + g.r.n ∧ z6.n = h.o.n + g.o.n) : largeB ⟨z0, z1, z2, z3, z4, z5, z6⟩ = largeD (joinD h a b) := by
  obtain ⟨n0, n1, n2, n3, n4, n5, n6⟩ := hn
  unfold largeB largeD joinD
  simp only [List.length_append, List.length_map]
  rw [n0, n1, n2, n3, n4, n5, n6, Ha.ni.1, Ha.np.1, Ha.nt.1, Ha.ns.1, Ha.ng.1, Ha.nr.1, Ha.no.1, Hb.ni.1, Hb.np.1, Hb.nt.1, Hb.ns.1, Hb.ng.1, Hb.nr.1, Hb.no.1]
end Go.Proofs.YtmfnholhhakgaaaGreatDoor
end
