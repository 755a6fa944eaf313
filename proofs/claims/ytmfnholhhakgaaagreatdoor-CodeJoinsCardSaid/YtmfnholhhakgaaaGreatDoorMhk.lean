/- Join: its loops. -/
import Derived.Test.YtmfnholhhakgaaaGreatDoorMhj
import Derived.RangeFuncBox
section
namespace Go.Proofs.YtmfnholhhakgaaaGreatDoor
open Go Go.Proofs Go.RowKit Go.Sort

/-- One element appended to a row that the call owns: it lies in a new block; what has turned. -/
theorem wpList_pushG {t e : TypeId} {size bytes : Nat} {z : Value} (E : Elem t e size bytes z) {w : World} {ops : Array Oper} {rest : List Oper} {o : Oper} {a : Act} {Q : Exit → Act → World → Prop} (hgd : o.guard = none) (s x : Operand)
    (ho : o.op = .call { callee := .builtin .append, args := #[s, x], argTypes := #[t, t] }) (base : Nat) (v : Value) (n : Nat) (xs : List Value) (hs : a.eval s = v) (hown : w.ownsRow base e size v n xs)
    (cs : Array Value) (N : Nat) (hx : a.eval x = .slice (some ⟨N, 0, none⟩) 1 1) (hN : w.heap.size = N) (hcs : cs.size = size) (h1 : ∀ u ∈ cs.toList, u.oneCell' = true)
    (h63 : n + 1 ≤ 1000000000000) (hbase : base ≤ w.heap.size)
    (h : ∀ v' w', w'.ownsRow base e size v' (n + 1) (xs ++ cs.toList) → w.grownBy w' v.ownBlock → wpList Tryz.prog ops Q rest (a.put o.dst v') w') : wpList Tryz.prog ops Q (o :: rest) a (w.alloc (.cells cs e)) := by
  subst hN
  obtain ⟨i, hi, hz, hsz, hby⟩ := E.i
  refine wpList_append_own _ hgd s x t ho base e i z size bytes E.u hi hz hsz hby E.s E.p v n xs hs (hown.alloc _) ⟨w.heap.size, 0, none⟩ 1 1 cs.toList hx (by simp [hcs]) (World.news_of_block (heap_alloc_new w _)) h1 (by unfold maxLen; omega) ?_ (by simp; omega) ?_
  · have := E.b
    calc (n + 1) * bytes ≤ 1000000000000 * 64 := Nat.mul_le_mul h63 this
      _ ≤ _ := by decide
  · intro v' w' h2 h3 _
    refine h v' w' h2 ⟨h3.os, h3.tape, h3.output, by have := h3.size; simp at this; omega, fun k hk hne => ?_⟩
    rw [h3.block k (by simp; omega) hne]
    exact Below.heap_alloc _ _ _ hk

/-- At the head of a loop of Join: N: the boxes of the two codes; Y: that of the first one's length; Y + 1: the map of shifts; F: that of formats; O: the box of what is made. -/
structure LInv (N Y F O : Nat) (h g : CodeH) (w wr : World) (v0 v1 v2 v3 v4 v5 v6 : Value) (n0 n1 n2 n3 n4 n5 n6 : Nat) (x0 x1 x2 x3 x4 x5 x6 : List Value) : Prop where
  s : SInv N h g w wr
  ny : N + 3 ≤ Y
  q : wr.heap[N + 2]? = some (.cells #[.slice none 0 0, .slice none 0 0, .slice none 0 0, .slice none 0 0, .slice none 0 0, .slice none 0 0, .slice none 0 0] 30 (0, 0))
  y : wr.cell? ⟨Y, 0, none⟩ = some (.int .i64 h.i.n)
  ys : Y + 2 ≤ wr.heap.size
  m : wr.heap[Y + 1]? = some (sm h 9)
  f : wr.heap[F]? = some (fm 53)
  j : JOut (Y + 1) O wr v0 v1 v2 v3 v4 v5 v6 n0 n1 n2 n3 n4 n5 n6 x0 x1 x2 x3 x4 x5 x6
theorem LInv.below {N Y F O : Nat} {h g : CodeH} {w wr wx : World} {v0 v1 v2 v3 v4 v5 v6 : Value} {n0 n1 n2 n3 n4 n5 n6 : Nat} {x0 x1 x2 x3 x4 x5 x6 : List Value} (H : LInv N Y F O h g w wr v0 v1 v2 v3 v4 v5 v6 n0 n1 n2 n3 n4 n5 n6 x0 x1 x2 x3 x4 x5 x6) (hb : Below wr.heap.size wr wx) : LInv N Y F O h g w wx v0 v1 v2 v3 v4 v5 v6 n0 n1 n2 n3 n4 n5 n6 x0 x1 x2 x3 x4 x5 x6 :=
  { s := H.s.below hb, ny := H.ny, q := (hb.block _ (Array.getElem?_eq_some_iff.1 H.q).1).trans H.q, y := (hb.cell (p := ⟨Y, 0, none⟩) (by have := H.ys; simp; omega)).trans H.y, ys := Nat.le_trans H.ys hb.size
    m := (hb.block _ (Array.getElem?_eq_some_iff.1 H.m).1).trans H.m, f := (hb.block _ (Array.getElem?_eq_some_iff.1 H.f).1).trans H.f, j := H.j.below hb }
theorem own_ne_map {w : World} {base : Nat} {e : TypeId} {size : Nat} {v : Value} {n : Nat} {xs : List Value} {F : Nat} {es : Array MapEntry} {c : Nat} (h : w.ownsRow base e size v n xs) (hF : w.heap[F]? = some (.map es c)) : some F ≠ v.ownBlock := by
  rcases h.2 with ⟨rfl, _⟩ | ⟨g, cap, cur, rfl, _, hg, _⟩
  · simp [Value.ownBlock]
  · intro e1
    have : F = g := by simpa [Value.ownBlock] using e1
    subst this
    rw [hg] at hF
    cases hF
theorem LInv.push0 {N Y F O : Nat} {h g : CodeH} {w wr w1 : World} {v0 v1 v2 v3 v4 v5 v6 v' : Value} {n0 n1 n2 n3 n4 n5 n6 n' : Nat} {x0 x1 x2 x3 x4 x5 x6 x' : List Value} (H : LInv N Y F O h g w wr v0 v1 v2 v3 v4 v5 v6 n0 n1 n2 n3 n4 n5 n6 x0 x1 x2 x3 x4 x5 x6) (ho : w1.ownsRow (Y + 2) 52 4 v' n' x') (hg : wr.grownBy w1 v0.ownBlock) :
    LInv N Y F O h g w (w1.setCell ⟨O, 0, none⟩ v') v' v1 v2 v3 v4 v5 v6 n' n1 n2 n3 n4 n5 n6 x' x1 x2 x3 x4 x5 x6 := by
  have hb : Below (Y + 2) wr (w1.setCell ⟨O, 0, none⟩ v') := ((Below.refl (Y + 2) wr).grown hg H.ys (fun k hk => (H.j.r0.lt k hk).1)).setCell (p := ⟨O, 0, none⟩) (by have := H.j.lo; simp; omega) v'
  have hFn : F ≠ O := by
    rintro rfl
    have := H.f.symm.trans H.j.o
    rw [fm53] at this
    cases this
  exact { s := H.s.to (hb.mono (by have := H.ny; omega)), ny := H.ny, q := (hb.block _ (by have := H.ny; omega)).trans H.q, y := (hb.cell (p := ⟨Y, 0, none⟩) (by simp)).trans H.y, ys := Nat.le_trans H.ys hb.size,
           m := (hb.block _ (by omega)).trans H.m,
           f := (Below.heap_setCell w1 ⟨O, 0, none⟩ v' F hFn).trans ((hg.block F (Array.getElem?_eq_some_iff.1 H.f).1 (own_ne_map H.j.r0 (fm53 ▸ H.f))).trans H.f),
           j := H.j.push0 ho hg }
theorem LInv.push1 {N Y F O : Nat} {h g : CodeH} {w wr w1 : World} {v0 v1 v2 v3 v4 v5 v6 v' : Value} {n0 n1 n2 n3 n4 n5 n6 n' : Nat} {x0 x1 x2 x3 x4 x5 x6 x' : List Value} (H : LInv N Y F O h g w wr v0 v1 v2 v3 v4 v5 v6 n0 n1 n2 n3 n4 n5 n6 x0 x1 x2 x3 x4 x5 x6) (ho : w1.ownsRow (Y + 2) 78 5 v' n' x') (hg : wr.grownBy w1 v1.ownBlock) :
    LInv N Y F O h g w (w1.setCell ⟨O, 1, none⟩ v') v0 v' v2 v3 v4 v5 v6 n0 n' n2 n3 n4 n5 n6 x0 x' x2 x3 x4 x5 x6 := by
  have hb : Below (Y + 2) wr (w1.setCell ⟨O, 1, none⟩ v') := ((Below.refl (Y + 2) wr).grown hg H.ys (fun k hk => (H.j.r1.lt k hk).1)).setCell (p := ⟨O, 1, none⟩) (by have := H.j.lo; simp; omega) v'
  have hFn : F ≠ O := by
    rintro rfl
    have := H.f.symm.trans H.j.o
    rw [fm53] at this
    cases this
  exact { s := H.s.to (hb.mono (by have := H.ny; omega)), ny := H.ny, q := (hb.block _ (by have := H.ny; omega)).trans H.q, y := (hb.cell (p := ⟨Y, 0, none⟩) (by simp)).trans H.y, ys := Nat.le_trans H.ys hb.size,
           m := (hb.block _ (by omega)).trans H.m,
           f := (Below.heap_setCell w1 ⟨O, 1, none⟩ v' F hFn).trans ((hg.block F (Array.getElem?_eq_some_iff.1 H.f).1 (own_ne_map H.j.r1 (fm53 ▸ H.f))).trans H.f),
           j := H.j.push1 ho hg }
theorem LInv.push2 {N Y F O : Nat} {h g : CodeH} {w wr w1 : World} {v0 v1 v2 v3 v4 v5 v6 v' : Value} {n0 n1 n2 n3 n4 n5 n6 n' : Nat} {x0 x1 x2 x3 x4 x5 x6 x' : List Value} (H : LInv N Y F O h g w wr v0 v1 v2 v3 v4 v5 v6 n0 n1 n2 n3 n4 n5 n6 x0 x1 x2 x3 x4 x5 x6) (ho : w1.ownsRow (Y + 2) 94 3 v' n' x') (hg : wr.grownBy w1 v2.ownBlock) :
    LInv N Y F O h g w (w1.setCell ⟨O, 2, none⟩ v') v0 v1 v' v3 v4 v5 v6 n0 n1 n' n3 n4 n5 n6 x0 x1 x' x3 x4 x5 x6 := by
  have hb : Below (Y + 2) wr (w1.setCell ⟨O, 2, none⟩ v') := ((Below.refl (Y + 2) wr).grown hg H.ys (fun k hk => (H.j.r2.lt k hk).1)).setCell (p := ⟨O, 2, none⟩) (by have := H.j.lo; simp; omega) v'
  have hFn : F ≠ O := by
    rintro rfl
    have := H.f.symm.trans H.j.o
    rw [fm53] at this
    cases this
  exact { s := H.s.to (hb.mono (by have := H.ny; omega)), ny := H.ny, q := (hb.block _ (by have := H.ny; omega)).trans H.q, y := (hb.cell (p := ⟨Y, 0, none⟩) (by simp)).trans H.y, ys := Nat.le_trans H.ys hb.size,
           m := (hb.block _ (by omega)).trans H.m,
           f := (Below.heap_setCell w1 ⟨O, 2, none⟩ v' F hFn).trans ((hg.block F (Array.getElem?_eq_some_iff.1 H.f).1 (own_ne_map H.j.r2 (fm53 ▸ H.f))).trans H.f),
           j := H.j.push2 ho hg }
theorem LInv.push3 {N Y F O : Nat} {h g : CodeH} {w wr w1 : World} {v0 v1 v2 v3 v4 v5 v6 v' : Value} {n0 n1 n2 n3 n4 n5 n6 n' : Nat} {x0 x1 x2 x3 x4 x5 x6 x' : List Value} (H : LInv N Y F O h g w wr v0 v1 v2 v3 v4 v5 v6 n0 n1 n2 n3 n4 n5 n6 x0 x1 x2 x3 x4 x5 x6) (ho : w1.ownsRow (Y + 2) 28 1 v' n' x') (hg : wr.grownBy w1 v3.ownBlock) :
    LInv N Y F O h g w (w1.setCell ⟨O, 3, none⟩ v') v0 v1 v2 v' v4 v5 v6 n0 n1 n2 n' n4 n5 n6 x0 x1 x2 x' x4 x5 x6 := by
  have hb : Below (Y + 2) wr (w1.setCell ⟨O, 3, none⟩ v') := ((Below.refl (Y + 2) wr).grown hg H.ys (fun k hk => (H.j.r3.lt k hk).1)).setCell (p := ⟨O, 3, none⟩) (by have := H.j.lo; simp; omega) v'
  have hFn : F ≠ O := by
    rintro rfl
    have := H.f.symm.trans H.j.o
    rw [fm53] at this
    cases this
  exact { s := H.s.to (hb.mono (by have := H.ny; omega)), ny := H.ny, q := (hb.block _ (by have := H.ny; omega)).trans H.q, y := (hb.cell (p := ⟨Y, 0, none⟩) (by simp)).trans H.y, ys := Nat.le_trans H.ys hb.size,
           m := (hb.block _ (by omega)).trans H.m,
           f := (Below.heap_setCell w1 ⟨O, 3, none⟩ v' F hFn).trans ((hg.block F (Array.getElem?_eq_some_iff.1 H.f).1 (own_ne_map H.j.r3 (fm53 ▸ H.f))).trans H.f),
           j := H.j.push3 ho hg }
theorem LInv.keepO0 {N Y F O : Nat} {h g : CodeH} {w wr w1 : World} {v0 v1 v2 v3 v4 v5 v6 : Value} {n0 n1 n2 n3 n4 n5 n6 : Nat} {x0 x1 x2 x3 x4 x5 x6 : List Value} (H : LInv N Y F O h g w wr v0 v1 v2 v3 v4 v5 v6 n0 n1 n2 n3 n4 n5 n6 x0 x1 x2 x3 x4 x5 x6) (hg : wr.grownBy w1 v0.ownBlock) :
    w1.cell? ⟨O, 0, none⟩ = some v0 ∧ w1.frozen? ⟨O, 0, none⟩ = false := by
  have hO := (hg.block O (Array.getElem?_eq_some_iff.1 H.j.o).1 (fun e => own_ne30 H.j.r0 H.j.o (by decide) e.symm)).trans H.j.o
  exact ⟨cell_of_row w1 O 0 _ 30 (0, 0) hO, by simp [World.frozen?, hO]⟩
theorem LInv.keepO1 {N Y F O : Nat} {h g : CodeH} {w wr w1 : World} {v0 v1 v2 v3 v4 v5 v6 : Value} {n0 n1 n2 n3 n4 n5 n6 : Nat} {x0 x1 x2 x3 x4 x5 x6 : List Value} (H : LInv N Y F O h g w wr v0 v1 v2 v3 v4 v5 v6 n0 n1 n2 n3 n4 n5 n6 x0 x1 x2 x3 x4 x5 x6) (hg : wr.grownBy w1 v1.ownBlock) :
    w1.cell? ⟨O, 1, none⟩ = some v1 ∧ w1.frozen? ⟨O, 1, none⟩ = false := by
  have hO := (hg.block O (Array.getElem?_eq_some_iff.1 H.j.o).1 (fun e => own_ne30 H.j.r1 H.j.o (by decide) e.symm)).trans H.j.o
  exact ⟨cell_of_row w1 O 1 _ 30 (0, 0) hO, by simp [World.frozen?, hO]⟩
theorem LInv.keepO2 {N Y F O : Nat} {h g : CodeH} {w wr w1 : World} {v0 v1 v2 v3 v4 v5 v6 : Value} {n0 n1 n2 n3 n4 n5 n6 : Nat} {x0 x1 x2 x3 x4 x5 x6 : List Value} (H : LInv N Y F O h g w wr v0 v1 v2 v3 v4 v5 v6 n0 n1 n2 n3 n4 n5 n6 x0 x1 x2 x3 x4 x5 x6) (hg : wr.grownBy w1 v2.ownBlock) :
    w1.cell? ⟨O, 2, none⟩ = some v2 ∧ w1.frozen? ⟨O, 2, none⟩ = false := by
  have hO := (hg.block O (Array.getElem?_eq_some_iff.1 H.j.o).1 (fun e => own_ne30 H.j.r2 H.j.o (by decide) e.symm)).trans H.j.o
  exact ⟨cell_of_row w1 O 2 _ 30 (0, 0) hO, by simp [World.frozen?, hO]⟩
theorem LInv.keepO3 {N Y F O : Nat} {h g : CodeH} {w wr w1 : World} {v0 v1 v2 v3 v4 v5 v6 : Value} {n0 n1 n2 n3 n4 n5 n6 : Nat} {x0 x1 x2 x3 x4 x5 x6 : List Value} (H : LInv N Y F O h g w wr v0 v1 v2 v3 v4 v5 v6 n0 n1 n2 n3 n4 n5 n6 x0 x1 x2 x3 x4 x5 x6) (hg : wr.grownBy w1 v3.ownBlock) :
    w1.cell? ⟨O, 3, none⟩ = some v3 ∧ w1.frozen? ⟨O, 3, none⟩ = false := by
  have hO := (hg.block O (Array.getElem?_eq_some_iff.1 H.j.o).1 (fun e => own_ne30 H.j.r3 H.j.o (by decide) e.symm)).trans H.j.o
  exact ⟨cell_of_row w1 O 3 _ 30 (0, 0) hO, by simp [World.frozen?, hO]⟩
theorem one4 (p q r t : Int) : ∀ u ∈ (#[.int .i64 p, .int .i64 q, .int .i64 r, .int .i64 t] : Array Value).toList, u.oneCell' = true := by
  intro u hu
  simp only [List.mem_cons, List.not_mem_nil, or_false] at hu
  rcases hu with rfl | rfl | rfl | rfl <;> rfl
theorem one5 (p q r t : Int) (b : Bool) : ∀ u ∈ (#[.int .i64 p, .int .i64 q, .int .i64 r, .int .i64 t, .bool b] : Array Value).toList, u.oneCell' = true := by
  intro u hu
  simp only [List.mem_cons, List.not_mem_nil, or_false] at hu
  rcases hu with rfl | rfl | rfl | rfl | rfl <;> rfl
theorem one3 (p q r : Int) : ∀ u ∈ (#[.int .i64 p, .int .i64 q, .int .i64 r] : Array Value).toList, u.oneCell' = true := by
  intro u hu
  simp only [List.mem_cons, List.not_mem_nil, or_false] at hu
  rcases hu with rfl | rfl | rfl <;> rfl
/-- The procedures made when k of the second code's have come. -/
def jP (h : CodeH) (a b : CodeD) (k : Nat) : List Value := (a.procs ++ (b.procs.take k).map (shP h.i.n)).flatMap ProcD.cells
theorem jP_succ {h : CodeH} {a b : CodeD} {k : Nat} {x : ProcD} (hx : b.procs[k]? = some x) : jP h a b (k + 1) = jP h a b k ++ (shP h.i.n x).cells := by
  unfold jP
  rw [List.take_add_one, hx]
  simp [List.flatMap_append]
theorem jP_zero (h : CodeH) (a b : CodeD) : jP h a b 0 = a.procs.flatMap ProcD.cells := by simp [jP]
def jT (h : CodeH) (a b : CodeD) (k : Nat) : List Value := (a.thunks ++ (b.thunks.take k).map (shT h.i.n)).flatMap ThunkD.cells
theorem jT_succ {h : CodeH} {a b : CodeD} {k : Nat} {x : ThunkD} (hx : b.thunks[k]? = some x) : jT h a b (k + 1) = jT h a b k ++ (shT h.i.n x).cells := by
  unfold jT
  rw [List.take_add_one, hx]
  simp [List.flatMap_append]
theorem jT_zero (h : CodeH) (a b : CodeD) : jT h a b 0 = a.thunks.flatMap ThunkD.cells := by simp [jT]
/-- The places of a well-formed code. -/
theorem proc_bound {w : World} {B : Nat} {h : CodeH} {c : CodeD} {x : ProcD} {k : Nat} (H : CodeAt w B h c) (hf : fineB c (largeB h) = true) (hx : c.procs[k]? = some x) : x.entry ≤ 1000000 := by
  obtain ⟨hl, W⟩ := fine_well hf
  obtain ⟨_, hi, _⟩ := large_sizes hl
  have := W.p x (List.mem_of_getElem? hx)
  have ei := H.ni.1
  unfold procOk wiB at this
  simp at this
  omega
theorem thunk_bound {w : World} {B : Nat} {h : CodeH} {c : CodeD} {x : ThunkD} {k : Nat} (H : CodeAt w B h c) (hf : fineB c (largeB h) = true) (hx : c.thunks[k]? = some x) : x.value ≤ 1000000 ∧ x.address ≤ 1000000 ∧ x.desig ≤ 1000000 := by
  obtain ⟨hl, W⟩ := fine_well hf
  obtain ⟨_, hi, _⟩ := large_sizes hl
  have := W.t x (List.mem_of_getElem? hx)
  have ei := H.ni.1
  unfold thunkOk placeOk wiB at this
  simp at this
  omega
theorem linv_start {N Y O : Nat} {h g : CodeH} {w W6 U w3 : World} {v0 v1 v2 v3 v4 v5 v6 : Value} {n0 n1 n2 n3 n4 n5 n6 : Nat} {x0 x1 x2 x3 x4 x5 x6 : List Value} (hs : SInv N h g w W6) (hy : W6.cell? ⟨Y, 0, none⟩ = some (.int .i64 h.i.n)) (hm : W6.heap[Y + 1]? = some (sm h 9)) (hsz : W6.heap.size = Y + 2) (hb : Below (Y + 2) W6 U)
    (j : JOut (Y + 1) O U v0 v1 v2 v3 v4 v5 v6 n0 n1 n2 n3 n4 n5 n6 x0 x1 x2 x3 x4 x5 x6) (ny : N + 3 ≤ Y) (hq : W6.heap[N + 2]? = some (.cells #[.slice none 0 0, .slice none 0 0, .slice none 0 0, .slice none 0 0, .slice none 0 0, .slice none 0 0, .slice none 0 0] 30 (0, 0))) (e : U.alloc (fm 53) = w3) : LInv N Y U.heap.size O h g w w3 v0 v1 v2 v3 v4 v5 v6 n0 n1 n2 n3 n4 n5 n6 x0 x1 x2 x3 x4 x5 x6 := by
  subst e
  have hbu : Below (Y + 2) W6 (U.alloc (fm 53)) := hb.alloc (by have := hb.size; omega) _
  exact { s := hs.to (hbu.mono (by omega)), ny := ny, q := (hbu.block _ (by omega)).trans hq, y := (hbu.cell (p := ⟨Y, 0, none⟩) (by simp)).trans hy, ys := by have := hbu.size; omega,
          m := (hbu.block _ (by omega)).trans hm, f := heap_alloc_new U (fm 53), j := j.below ((Below.refl _ U).alloc (Nat.le_refl _) _) }
/-- The instructions made when k of the second code's have come. -/
def jI (h : CodeH) (a b : CodeD) (k : Nat) : List Value := (a.instrs ++ (b.instrs.take k).map (shI h)).flatMap InstrD.cells
theorem jI_succ {h : CodeH} {a b : CodeD} {k : Nat} {x : InstrD} (hx : b.instrs[k]? = some x) : jI h a b (k + 1) = jI h a b k ++ (shI h x).cells := by
  unfold jI
  rw [List.take_add_one, hx]
  simp [List.flatMap_append]
theorem jI_zero (h : CodeH) (a b : CodeD) : jI h a b 0 = a.instrs.flatMap InstrD.cells := by simp [jI]
theorem opnd_bounds {c : CodeD} {q : Nat} {n : Int} (h : opnd c q n = true) (h1 : c.reals.length ≤ 2000) (h2 : c.strings.length ≤ 2000) (h3 : c.owns.length ≤ 2000) (h4 : c.thunks.length ≤ 2000) (h5 : c.procs.length ≤ 2000) (h6 : c.instrs.length ≤ 20000) (h7 : c.switches.length ≤ 2000) :
    -2147483647 ≤ n ∧ n ≤ 2147483647 := by
  unfold opnd at h
  split at h <;> simp only [wiB, tyB, Bool.and_eq_true, Bool.or_eq_true, decide_eq_true_eq] at h <;> omega
theorem shiftN_le {h : CodeH} (H : largeB h = false) (n : Int) : ((shiftN h n : Nat) : Int) ≤ 20000 := by
  obtain ⟨_, hi, hp, ht, hs, hg, hr, ho⟩ := large_sizes H
  unfold shiftN
  repeat' split
  all_goals omega
/-- The operands of an instruction of a well-formed code. -/
theorem ins_bounds {w : World} {B : Nat} {h : CodeH} {c : CodeD} {x : InstrD} {k : Nat} (H : CodeAt w B h c) (hf : fineB c (largeB h) = true) (hx : c.instrs[k]? = some x) :
    (-2147483647 ≤ x.a ∧ x.a ≤ 2147483647) ∧ (-2147483647 ≤ x.b ∧ x.b ≤ 2147483647) ∧ (-2147483647 ≤ x.c ∧ x.c ≤ 2147483647) := by
  obtain ⟨hl, W⟩ := fine_well hf
  obtain ⟨_, hi, hp, ht, hs, hg, hr, ho⟩ := large_sizes hl
  have e0 := W.i x (List.mem_of_getElem? hx)
  have ei := H.ni.1
  have ep := H.np.1
  have et := H.nt.1
  have es := H.ns.1
  have eg := H.ng.1
  have er := H.nr.1
  have eo := H.no.1
  unfold insErr at e0
  split at e0
  · cases e0
  · split at e0
    · rename_i h2
      rw [Bool.and_eq_true, Bool.and_eq_true] at h2
      exact ⟨opnd_bounds h2.1.1 (by omega) (by omega) (by omega) (by omega) (by omega) (by omega) (by omega), opnd_bounds h2.1.2 (by omega) (by omega) (by omega) (by omega) (by omega) (by omega) (by omega), opnd_bounds h2.2 (by omega) (by omega) (by omega) (by omega) (by omega) (by omega) (by omega)⟩
    · cases e0
end Go.Proofs.YtmfnholhhakgaaaGreatDoor
end
section
namespace Go.Proofs.YtmfnholhhakgaaaGreatDoor
open Go Go.Proofs Go.RowKit Go.Sort

theorem grownBy_trans' {a b c : World} {row : Option Nat} (h : a.grownBy b row) (k : b.grownBy c row) : a.grownBy c row :=
  ⟨k.os.trans h.os, k.tape.trans h.tape, k.output.trans h.output, Nat.le_trans h.size k.size, fun i hi hne => (k.block i (by have := h.size; omega) hne).trans (h.block i hi hne)⟩
theorem grownBy_below' {a b : World} {row : Option Nat} (h : Below a.heap.size a b) : a.grownBy b row := ⟨h.os, h.tape, h.output, h.size, fun i hi _ => h.block i hi⟩

theorem op_fieldAddrS {o : Oper} {a : Act} {w : World} {K : Act → World → Prop} {Q : Exit → Act → World → Prop} {x : Nat} {k : Nat} (ho : o.op = .fieldAddr 94 (.tmp x) k) {N : Nat} (hx : a.tmps.getD x undef = .pointer (some ⟨N, 0, none⟩)) (hk : k < 3)
    (h : K (a.put o.dst (.pointer (some ⟨N, k, none⟩))) w) : o.wp Tryz.prog a w K Q := by
  have hx' : a.tmps[x]?.getD undef = .pointer (some ⟨N, 0, none⟩) := by simpa using hx
  unfold Oper.wp
  rcases (show k = 0 ∨ k = 1 ∨ k = 2 from by omega) with rfl | rfl | rfl
  all_goals (simp [execOp, ho, hx', go_sem]; try exact h)
theorem op_load3 {o : Oper} {a : Act} {w : World} {K : Act → World → Prop} {Q : Exit → Act → World → Prop} {x : Nat} (ho : o.op = .load 3 (.tmp x)) {N j : Nat} {v : Value} (hx : a.tmps.getD x undef = .pointer (some ⟨N, j, none⟩)) (hv : w.cell? ⟨N, j, none⟩ = some v)
    (h : K (a.put o.dst v) w) : o.wp Tryz.prog a w K Q := by
  have hx' : a.tmps[x]?.getD undef = .pointer (some ⟨N, j, none⟩) := by simpa using hx
  have ha := Tryz.isAgg3
  have hu := Tryz.underlying3
  have hs := Tryz.sizeOf3
  unfold Oper.wp
  simp [execOp, ho, hx', go_sem, ha, hs, hv]
  exact h
theorem op_move {o : Oper} {a : Act} {w : World} {K : Act → World → Prop} {Q : Exit → Act → World → Prop} {x : Nat} (ho : o.op = .move (.tmp x)) {v : Value} (hx : a.tmps.getD x undef = v) (h : K (a.put o.dst v) w) : o.wp Tryz.prog a w K Q := by
  have hx' : a.tmps[x]?.getD undef = v := by simpa using hx
  unfold Oper.wp
  simp [execOp, ho, hx', go_sem]
  exact h
theorem op_callMove {o : Oper} {a : Act} {w : World} {K : Act → World → Prop} {Q : Exit → Act → World → Prop} {f x : Nat} (ho : o.op = .call { callee := .value (.tmp f), args := #[.tmp x], argTypes := #[3] }) {Y I : Nat} {n : Int} (hf : a.tmps.getD f undef = .func (.func 57) #[] #[.pointer (some ⟨Y, 0, none⟩)]) (hx : a.tmps.getD x undef = .int .i64 n)
    (hc : w.cell? ⟨Y, 0, none⟩ = some (.int .i64 I)) (hn : n ≤ 1000000) (hI : I ≤ 1000000) (h : K (a.put o.dst (.int .i64 (mv I n))) w) : o.wp Tryz.prog a w K Q := by
  have hf' : a.tmps[f]?.getD undef = .func (.func 57) #[] #[.pointer (some ⟨Y, 0, none⟩)] := by simpa using hf
  have hx' : a.tmps[x]?.getD undef = .int .i64 n := by simpa using hx
  have he := enters57 (#[.int .i64 n] ++ #[.pointer (some ⟨Y, 0, none⟩)]) w
  have hm := move_any n Y I w hc hn hI
  simp at he hm
  unfold Oper.wp
  simp [execOp, ho, resolve, invoke, hf', hx', go_sem]
  refine Calls.mono hm ?_
  rintro e w' ⟨rfl, rfl⟩
  exact h
theorem op_build94 {o : Oper} {a : Act} {w : World} {K : Act → World → Prop} {Q : Exit → Act → World → Prop} {x y z : Nat} (ho : o.op = .build 94 #[(0, .tmp x), (1, .tmp y), (2, .tmp z)]) {p q r : Int} (hx : a.tmps.getD x undef = .int .i64 p) (hy : a.tmps.getD y undef = .int .i64 q) (hz : a.tmps.getD z undef = .int .i64 r)
    (h : K (a.put o.dst (.agg #[.int .i64 p, .int .i64 q, .int .i64 r])) w) : o.wp Tryz.prog a w K Q := by
  simp only [Array.getD_eq_getD_getElem?] at hx hy hz
  have hu := Tryz.underlying94
  have hs := Tryz.sizeOf94
  have hzv := Tryz.zeroValue94
  unfold Oper.wp
  simp [execOp, ho, hx, hy, hz, go_sem, hzv]
  exact h
theorem op_bs94 {o : Oper} {a : Act} {w : World} {K : Act → World → Prop} {Q : Exit → Act → World → Prop} {x : Nat} (ho : o.op = .buildSlice 24 1 #[(0, .tmp x)]) {p q r : Int} (hx : a.tmps.getD x undef = .agg #[.int .i64 p, .int .i64 q, .int .i64 r])
    (h : K (a.put o.dst (.slice (some ⟨w.heap.size, 0, none⟩) 1 1)) (w.alloc (.cells #[.int .i64 p, .int .i64 q, .int .i64 r] 94))) : o.wp Tryz.prog a w K Q := by
  simp only [Array.getD_eq_getD_getElem?] at hx
  have hu := Tryz.underlying24
  have hs := Tryz.sizeOf94
  have hz := Tryz.zeroValue94
  unfold Oper.wp
  simp [execOp, ho, hx, go_sem, hs, hz]
  exact h
theorem op_append {t e : TypeId} {size bytes : Nat} {z : Value} (E : Elem t e size bytes z) {o : Oper} {a : Act} {w : World} {K : Act → World → Prop} {Q : Exit → Act → World → Prop} {s x : Nat} (ho : o.op = .call { callee := .builtin .append, args := #[.tmp s, .tmp x], argTypes := #[t, t] })
    (base : Nat) (v : Value) (n : Nat) (xs : List Value) (hs : a.tmps.getD s undef = v) (hown : w.ownsRow base e size v n xs) (cs : Array Value) (m : Nat) (hx : a.tmps.getD x undef = .slice (some ⟨m, 0, none⟩) 1 1) (hcs : cs.size = size) (hm : w.heap[m]? = some (.cells cs e (0, 0))) (h1 : ∀ u ∈ cs.toList, u.oneCell' = true)
    (h63 : n + 1 ≤ 1000000000000) (hbase : base ≤ w.heap.size)
    (h : ∀ v' w', w'.ownsRow base e size v' (n + 1) (xs ++ cs.toList) → w.grownBy w' v.ownBlock → K (a.put o.dst v') w') : o.wp Tryz.prog a w K Q := by
  obtain ⟨i, hi, hz, hsz, hby⟩ := E.i
  refine wp_append_own w (.tmp s) (.tmp x) t ho base e i z size bytes E.u hi hz hsz hby E.s E.p v n xs hs hown ⟨m, 0, none⟩ 1 1 cs.toList hx (by simp [hcs]) (World.news_of_block hm) h1 (by unfold maxLen; omega) ?_ hbase (fun v' w' h2 h3 _ => h v' w' h2 h3)
  have := E.b
  calc (n + 1) * bytes ≤ 1000000000000 * 64 := Nat.mul_le_mul h63 this
    _ ≤ _ := by decide

theorem op_store24 {o : Oper} {a : Act} {w : World} {K : Act → World → Prop} {Q : Exit → Act → World → Prop} {x y : Nat} (ho : o.op = .store 24 (.tmp x) (.tmp y)) {O : Nat} {v v0 : Value} (hx : a.tmps.getD x undef = .pointer (some ⟨O, 2, none⟩)) (hy : a.tmps.getD y undef = v) (hs : IsSlice v)
    (hc : w.cell? ⟨O, 2, none⟩ = some v0) (hf : w.frozen? ⟨O, 2, none⟩ = false) (h : K (a.put o.dst undef) (w.setCell ⟨O, 2, none⟩ v)) : o.wp Tryz.prog a w K Q := by
  obtain ⟨a0, n0, c0, rfl⟩ := hs
  simp only [Array.getD_eq_getD_getElem?] at hx hy
  have hu := Tryz.underlying24
  have hsz := Tryz.sizeOf24
  have ha := Tryz.isAgg24
  unfold Oper.wp
  simp [execOp, ho, hx, hy, go_sem, hsz, hc, hf]
  exact h

/-- What the operations of the thunk's region leave: O: the box of what is made; X: the thunk's copy; H: the heap's size ahead of the region. -/
def TPred (O X Y I H : Nat) (v2 : Value) (x : ThunkD) (n : Nat) (xs : List Value) (i : Nat) (v : Value) (w : World) : Prop :=
  match i with
  | 0 => v = .pointer (some ⟨O, 2, none⟩)
  | 1 => v = v2
  | 2 => v = .func (.func 57) #[] #[.pointer (some ⟨Y, 0, none⟩)]
  | 3 => v = .pointer (some ⟨X, 0, none⟩)
  | 4 => v = .int .i64 x.value
  | 5 => v = .int .i64 (mv I x.value)
  | 6 => v = .func (.func 57) #[] #[.pointer (some ⟨Y, 0, none⟩)]
  | 7 => v = .pointer (some ⟨X, 1, none⟩)
  | 8 => v = .int .i64 x.address
  | 9 => v = .int .i64 (mv I x.address)
  | 10 => v = .func (.func 57) #[] #[.pointer (some ⟨Y, 0, none⟩)]
  | 11 => v = .pointer (some ⟨X, 2, none⟩)
  | 12 => v = .int .i64 x.desig
  | 13 => v = .int .i64 (mv I x.desig)
  | 14 => v = .agg #[.int .i64 (mv I x.value), .int .i64 (mv I x.address), .int .i64 (mv I x.desig)]
  | 15 => ∃ m, v = .slice (some ⟨m, 0, none⟩) 1 1 ∧ H ≤ m ∧ w.heap[m]? = some (.cells #[.int .i64 (mv I x.value), .int .i64 (mv I x.address), .int .i64 (mv I x.desig)] 94 (0, 0))
  | 16 => w.ownsRow (Y + 2) 94 3 v (n + 1) (xs ++ (shT I x).cells)
  | 17 => v = .pointer (some ⟨O, 2, none⟩)
  | _ => True
/-- Which operation turns what. -/
def TRel (v2 : Value) (i : Nat) (w w' : World) : Prop := (i ≠ 16 → Below w.heap.size w w') ∧ w.grownBy w' v2.ownBlock
theorem TPred.stab {O X Y I H : Nat} {v2 : Value} {x : ThunkD} {n : Nat} {xs : List Value} (hv : ∀ k, v2.ownBlock = some k → k < H) (i j : Nat) (v : Value) (w w' : World) (hij : i ≠ j) (hp : TPred O X Y I H v2 x n xs i v w) (hr : TRel v2 j w w') : TPred O X Y I H v2 x n xs i v w' := by
  unfold TPred at *
  split <;> (try exact hp)
  · obtain ⟨m, e, hm, hc⟩ := hp
    exact ⟨m, e, hm, (hr.2.block m (Array.getElem?_eq_some_iff.1 hc).1 (fun e => by have := hv m e.symm; omega)).trans hc⟩
  · exact own_below hp (hr.1 (Ne.symm hij))
  · trivial
end Go.Proofs.YtmfnholhhakgaaaGreatDoor
end
section
namespace Go.Proofs.YtmfnholhhakgaaaGreatDoor
open Go Go.Proofs Go.RowKit Go.Sort

/-- The headers hs are those of rows that the call owns and that hold the lists ls. -/
structure JSw (Y : Nat) (w : World) (hs : List SH) (ls : List (List Int)) : Prop where
  len : hs.length = ls.length
  own : ∀ (k : Nat) (x : SH) (l : List Int), hs[k]? = some x → ls[k]? = some l → w.ownsRow (Y + 2) 3 1 x.v l.length (intCells l) ∧ x.n = l.length
theorem JSw.nil (Y : Nat) (w : World) : JSw Y w [] [] := ⟨rfl, fun k x l hx => by simp at hx⟩
theorem JSw.map {Y : Nat} {w w' : World} {hs : List SH} {ls : List (List Int)} (H : JSw Y w hs ls) (hk : ∀ (v : Value) (n : Nat) (xs : List Value), w.ownsRow (Y + 2) 3 1 v n xs → w'.ownsRow (Y + 2) 3 1 v n xs) : JSw Y w' hs ls :=
  ⟨H.len, fun k x l hx hl => ⟨hk _ _ _ (H.own k x l hx hl).1, (H.own k x l hx hl).2⟩⟩
theorem JSw.below {Y : Nat} {w w' : World} {hs : List SH} {ls : List (List Int)} (H : JSw Y w hs ls) (hb : Below w.heap.size w w') : JSw Y w' hs ls := H.map fun _ _ _ h => own_below h hb
theorem JSw.snoc {Y : Nat} {w : World} {hs : List SH} {ls : List (List Int)} {x : SH} {l : List Int} (H : JSw Y w hs ls) (hx : w.ownsRow (Y + 2) 3 1 x.v l.length (intCells l)) (hn : x.n = l.length) : JSw Y w (hs ++ [x]) (ls ++ [l]) := by
  refine ⟨by simp [H.len], fun k y m hy hm => ?_⟩
  rcases Nat.lt_or_ge k hs.length with h | h
  · rw [List.getElem?_append_left h] at hy
    rw [List.getElem?_append_left (by rw [← H.len]; exact h)] at hm
    exact H.own k y m hy hm
  · rw [List.getElem?_append_right h] at hy
    rw [List.getElem?_append_right (by rw [← H.len]; exact h)] at hm
    have hk : k - hs.length = 0 := by
      have := (List.getElem?_eq_some_iff.1 hy).1
      simp at this
      omega
    rw [hk] at hy
    rw [← H.len, hk] at hm
    simp at hy hm
    subst hy hm
    exact ⟨hx, hn⟩
/-- The header of a row that the call owns. -/
theorem own_sh {w : World} {base : Nat} {e : TypeId} {size : Nat} {v : Value} {n : Nat} {xs : List Value} (h : w.ownsRow base e size v n xs) : ∃ x : SH, v = x.v ∧ x.n = n := by
  rcases h.2 with ⟨rfl, rfl⟩ | ⟨g, cap, cur, rfl, _⟩
  · exact ⟨⟨none, 0, 0⟩, rfl, rfl⟩
  · exact ⟨⟨some ⟨g, 0, none⟩, n, cap⟩, rfl, rfl⟩
end Go.Proofs.YtmfnholhhakgaaaGreatDoor
end
