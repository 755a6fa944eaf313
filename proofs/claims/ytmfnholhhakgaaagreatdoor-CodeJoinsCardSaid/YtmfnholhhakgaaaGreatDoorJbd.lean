/- code.Join at codes that Check does not take: it answers with an error. -/
import Derived.Test.YtmfnholhhakgaaaGreatDoorJnc
namespace Go.Proofs.YtmfnholhhakgaaaGreatDoor
open Go Go.Proofs Go.RowKit Go.Sort
set_option maxRecDepth 100000
theorem Join_bad (h g : CodeH) (a b : CodeD) (w : World) (Ha : CodeAt w w.heap.size h a) (Hb : CodeAt w w.heap.size g b) (hf : (fineB a (largeB h) && fineB b (largeB g)) = false) :
    Calls Tryz.prog 18 #[.agg #[.slice h.i.a h.i.n h.i.c, .slice h.p.a h.p.n h.p.c, .slice h.t.a h.t.n h.t.c, .slice h.s.a h.s.n h.s.c, .slice h.g.a h.g.n h.g.c, .slice h.r.a h.r.n h.r.c, .slice h.o.a h.o.n h.o.c], .agg #[.slice g.i.a g.i.n g.i.c, .slice g.p.a g.p.n g.p.c, .slice g.t.a g.t.n g.t.c, .slice g.s.a g.s.n g.s.c, .slice g.g.a g.g.n g.g.c, .slice g.r.a g.r.n g.r.c, .slice g.o.a g.o.n g.o.c]] w fun e w' => e = .returned (.tuple #[.agg #[.slice none 0 0, .slice none 0 0, .slice none 0 0, .slice none 0 0, .slice none 0 0, .slice none 0 0, .slice none 0 0], .int .i64 1]) ∧ Below w.heap.size w w' := by
  have HA := Lib.hid Ha
  have HB := Lib.hid Hb
  have I0 := Lib.hid (SInv.start h g w)
  have I1 := Lib.hid (I0.out.below ((Below.refl _ _).alloc (Nat.le_refl _) (.cells #[.slice none 0 0, .slice none 0 0, .slice none 0 0, .slice none 0 0, .slice none 0 0, .slice none 0 0, .slice none 0 0] 30)))
  have Q1 : Hid ((((w.alloc (.cells #[.slice h.i.a h.i.n h.i.c, .slice h.p.a h.p.n h.p.c, .slice h.t.a h.t.n h.t.c, .slice h.s.a h.s.n h.s.c, .slice h.g.a h.g.n h.g.c, .slice h.r.a h.r.n h.r.c, .slice h.o.a h.o.n h.o.c] 30)).alloc (.cells #[.slice g.i.a g.i.n g.i.c, .slice g.p.a g.p.n g.p.c, .slice g.t.a g.t.n g.t.c, .slice g.s.a g.s.n g.s.c, .slice g.g.a g.g.n g.g.c, .slice g.r.a g.r.n g.r.c, .slice g.o.a g.o.n g.o.c] 30)).alloc (.cells #[.slice none 0 0, .slice none 0 0, .slice none 0 0, .slice none 0 0, .slice none 0 0, .slice none 0 0, .slice none 0 0] 30)).heap[w.heap.size + 2]? = some (.cells #[.slice none 0 0, .slice none 0 0, .slice none 0 0, .slice none 0 0, .slice none 0 0, .slice none 0 0, .slice none 0 0] 30 (0, 0))) := Lib.hid (by have := heap_alloc_new ((w.alloc (.cells #[.slice h.i.a h.i.n h.i.c, .slice h.p.a h.p.n h.p.c, .slice h.t.a h.t.n h.t.c, .slice h.s.a h.s.n h.s.c, .slice h.g.a h.g.n h.g.c, .slice h.r.a h.r.n h.r.c, .slice h.o.a h.o.n h.o.c] 30)).alloc (.cells #[.slice g.i.a g.i.n g.i.c, .slice g.p.a g.p.n g.p.c, .slice g.t.a g.t.n g.t.c, .slice g.s.a g.s.n g.s.c, .slice g.g.a g.g.n g.g.c, .slice g.r.a g.r.n g.r.c, .slice g.o.a g.o.n g.o.c] 30)) (.cells #[.slice none 0 0, .slice none 0 0, .slice none 0 0, .slice none 0 0, .slice none 0 0, .slice none 0 0, .slice none 0 0] 30); rwa [World.size_alloc, World.size_alloc] at this)
  clear Ha Hb
  have C1 := Lib.hid (fine_any h a)
  have C2 := Lib.hid (fine_any g b)
  cases fa : fineB a (largeB h) with
  | false =>
    rw [fa] at C1
    clear hf fa C2
    go_enter Tryz.func18, Tryz.ntmps18
    go_wp2_with (first
      | (go_at_call 56; refine (C1.out _ (HA.out.at I1.out.x.b)).mono ?_; clear C1; rintro e w1 ⟨rfl, hb1⟩; have I2 := Lib.hid (I1.out.below hb1); have Q2 := Lib.hid ((hb1.block _ (Array.getElem?_eq_some_iff.1 Q1.out).1).trans Q1.out); clear hb1; have q0 : w1.cell? ⟨w.heap.size + 1 + 1, 0, none⟩ = some (.slice none 0 0) := cell_of_row _ (w.heap.size + 2) 0 _ _ _ Q2.out; have q1 : w1.cell? ⟨w.heap.size + 1 + 1, 1, none⟩ = some (.slice none 0 0) := cell_of_row _ (w.heap.size + 2) 1 _ _ _ Q2.out; have q2 : w1.cell? ⟨w.heap.size + 1 + 1, 2, none⟩ = some (.slice none 0 0) := cell_of_row _ (w.heap.size + 2) 2 _ _ _ Q2.out; have q3 : w1.cell? ⟨w.heap.size + 1 + 1, 3, none⟩ = some (.slice none 0 0) := cell_of_row _ (w.heap.size + 2) 3 _ _ _ Q2.out; have q4 : w1.cell? ⟨w.heap.size + 1 + 1, 4, none⟩ = some (.slice none 0 0) := cell_of_row _ (w.heap.size + 2) 4 _ _ _ Q2.out; have q5 : w1.cell? ⟨w.heap.size + 1 + 1, 5, none⟩ = some (.slice none 0 0) := cell_of_row _ (w.heap.size + 2) 5 _ _ _ Q2.out; have q6 : w1.cell? ⟨w.heap.size + 1 + 1, 6, none⟩ = some (.slice none 0 0) := cell_of_row _ (w.heap.size + 2) 6 _ _ _ Q2.out; have qf : ∀ j, w1.frozen? ⟨w.heap.size + 1 + 1, j, none⟩ = false := fun j => by simp [World.frozen?, Q2.out]))
    clear q0 q1 q2 q3 q4 q5 q6 qf
    have HH : (set7v w1 (w.heap.size + 2) (.slice none 0 0) (.slice none 0 0) (.slice none 0 0) (.slice none 0 0) (.slice none 0 0) (.slice none 0 0) (.slice none 0 0)).heap[w.heap.size + 2]? = some (.cells #[.slice none 0 0, .slice none 0 0, .slice none 0 0, .slice none 0 0, .slice none 0 0, .slice none 0 0, .slice none 0 0] 30 (0, 0)) := set7v_heap _ _ _ _ _ _ _ Q2.out
    have HBW : Below w.heap.size w (set7v w1 (w.heap.size + 2) (.slice none 0 0) (.slice none 0 0) (.slice none 0 0) (.slice none 0 0) (.slice none 0 0) (.slice none 0 0) (.slice none 0 0)) := set7v_below _ _ _ _ _ _ _ I2.out.x.b (by omega)
    change bodyPost _ _ _ _ _ (set7v w1 (w.heap.size + 1 + 1) (.slice none 0 0) (.slice none 0 0) (.slice none 0 0) (.slice none 0 0) (.slice none 0 0) (.slice none 0 0) (.slice none 0 0))
    change (set7v w1 (w.heap.size + 1 + 1) (.slice none 0 0) (.slice none 0 0) (.slice none 0 0) (.slice none 0 0) (.slice none 0 0) (.slice none 0 0) (.slice none 0 0)).heap[w.heap.size + 1 + 1]? = _ at HH
    change Below w.heap.size w (set7v w1 (w.heap.size + 1 + 1) (.slice none 0 0) (.slice none 0 0) (.slice none 0 0) (.slice none 0 0) (.slice none 0 0) (.slice none 0 0) (.slice none 0 0)) at HBW
    generalize set7v w1 (w.heap.size + 1 + 1) (.slice none 0 0) (.slice none 0 0) (.slice none 0 0) (.slice none 0 0) (.slice none 0 0) (.slice none 0 0) (.slice none 0 0) = W7 at *
    have k0 : W7.cell? ⟨w.heap.size + 1 + 1, 0, none⟩ = some (.slice none 0 0) := cell_of_row _ (w.heap.size + 1 + 1) 0 _ _ _ HH
    have k1 : W7.cell? ⟨w.heap.size + 1 + 1, 1, none⟩ = some (.slice none 0 0) := cell_of_row _ (w.heap.size + 1 + 1) 1 _ _ _ HH
    have k2 : W7.cell? ⟨w.heap.size + 1 + 1, 2, none⟩ = some (.slice none 0 0) := cell_of_row _ (w.heap.size + 1 + 1) 2 _ _ _ HH
    have k3 : W7.cell? ⟨w.heap.size + 1 + 1, 3, none⟩ = some (.slice none 0 0) := cell_of_row _ (w.heap.size + 1 + 1) 3 _ _ _ HH
    have k4 : W7.cell? ⟨w.heap.size + 1 + 1, 4, none⟩ = some (.slice none 0 0) := cell_of_row _ (w.heap.size + 1 + 1) 4 _ _ _ HH
    have k5 : W7.cell? ⟨w.heap.size + 1 + 1, 5, none⟩ = some (.slice none 0 0) := cell_of_row _ (w.heap.size + 1 + 1) 5 _ _ _ HH
    have k6 : W7.cell? ⟨w.heap.size + 1 + 1, 6, none⟩ = some (.slice none 0 0) := cell_of_row _ (w.heap.size + 1 + 1) 6 _ _ _ HH
    exact bodyPost_ret (v := .tuple #[.agg #[.slice none 0 0, .slice none 0 0, .slice none 0 0, .slice none 0 0, .slice none 0 0, .slice none 0 0, .slice none 0 0], .int .i64 1]) (by simp [results, Tryz.results18, go_sem, k0, k1, k2, k3, k4, k5, k6, Tryz.sizeOf30]) rfl ⟨rfl, HBW⟩
  | true =>
    rw [fa] at C1 hf
    rw [show fineB b (largeB g) = false by simpa using hf] at C2
    clear hf fa
    go_enter Tryz.func18, Tryz.ntmps18
    go_wp2_with (first
      | (go_at_call 56; refine (C1.out _ (HA.out.at I1.out.x.b)).mono ?_; clear C1; rintro e w1 ⟨rfl, hb1⟩; have I2 := Lib.hid (I1.out.below hb1); have Q2 := Lib.hid ((hb1.block _ (Array.getElem?_eq_some_iff.1 Q1.out).1).trans Q1.out); clear hb1; have y0 := I2.out.d0; have y1 := I2.out.d1; have y2 := I2.out.d2; have y3 := I2.out.d3; have y4 := I2.out.d4; have y5 := I2.out.d5; have y6 := I2.out.d6)
      | (go_at_call 56; refine (C2.out _ (HB.out.at I2.out.x.b)).mono ?_; clear C2; rintro e w2 ⟨rfl, hb2⟩; have I3 := Lib.hid (I2.out.below hb2); have Q3 := Lib.hid ((hb2.block _ (Array.getElem?_eq_some_iff.1 Q2.out).1).trans Q2.out); clear hb2 y0 y1 y2 y3 y4 y5 y6; have q0 : w2.cell? ⟨w.heap.size + 1 + 1, 0, none⟩ = some (.slice none 0 0) := cell_of_row _ (w.heap.size + 2) 0 _ _ _ Q3.out; have q1 : w2.cell? ⟨w.heap.size + 1 + 1, 1, none⟩ = some (.slice none 0 0) := cell_of_row _ (w.heap.size + 2) 1 _ _ _ Q3.out; have q2 : w2.cell? ⟨w.heap.size + 1 + 1, 2, none⟩ = some (.slice none 0 0) := cell_of_row _ (w.heap.size + 2) 2 _ _ _ Q3.out; have q3 : w2.cell? ⟨w.heap.size + 1 + 1, 3, none⟩ = some (.slice none 0 0) := cell_of_row _ (w.heap.size + 2) 3 _ _ _ Q3.out; have q4 : w2.cell? ⟨w.heap.size + 1 + 1, 4, none⟩ = some (.slice none 0 0) := cell_of_row _ (w.heap.size + 2) 4 _ _ _ Q3.out; have q5 : w2.cell? ⟨w.heap.size + 1 + 1, 5, none⟩ = some (.slice none 0 0) := cell_of_row _ (w.heap.size + 2) 5 _ _ _ Q3.out; have q6 : w2.cell? ⟨w.heap.size + 1 + 1, 6, none⟩ = some (.slice none 0 0) := cell_of_row _ (w.heap.size + 2) 6 _ _ _ Q3.out; have qf : ∀ j, w2.frozen? ⟨w.heap.size + 1 + 1, j, none⟩ = false := fun j => by simp [World.frozen?, Q3.out]))
    clear q0 q1 q2 q3 q4 q5 q6 qf
    have HH : (set7v w2 (w.heap.size + 2) (.slice none 0 0) (.slice none 0 0) (.slice none 0 0) (.slice none 0 0) (.slice none 0 0) (.slice none 0 0) (.slice none 0 0)).heap[w.heap.size + 2]? = some (.cells #[.slice none 0 0, .slice none 0 0, .slice none 0 0, .slice none 0 0, .slice none 0 0, .slice none 0 0, .slice none 0 0] 30 (0, 0)) := set7v_heap _ _ _ _ _ _ _ Q3.out
    have HBW : Below w.heap.size w (set7v w2 (w.heap.size + 2) (.slice none 0 0) (.slice none 0 0) (.slice none 0 0) (.slice none 0 0) (.slice none 0 0) (.slice none 0 0) (.slice none 0 0)) := set7v_below _ _ _ _ _ _ _ I3.out.x.b (by omega)
    change bodyPost _ _ _ _ _ (set7v w2 (w.heap.size + 1 + 1) (.slice none 0 0) (.slice none 0 0) (.slice none 0 0) (.slice none 0 0) (.slice none 0 0) (.slice none 0 0) (.slice none 0 0))
    change (set7v w2 (w.heap.size + 1 + 1) (.slice none 0 0) (.slice none 0 0) (.slice none 0 0) (.slice none 0 0) (.slice none 0 0) (.slice none 0 0) (.slice none 0 0)).heap[w.heap.size + 1 + 1]? = _ at HH
    change Below w.heap.size w (set7v w2 (w.heap.size + 1 + 1) (.slice none 0 0) (.slice none 0 0) (.slice none 0 0) (.slice none 0 0) (.slice none 0 0) (.slice none 0 0) (.slice none 0 0)) at HBW
    generalize set7v w2 (w.heap.size + 1 + 1) (.slice none 0 0) (.slice none 0 0) (.slice none 0 0) (.slice none 0 0) (.slice none 0 0) (.slice none 0 0) (.slice none 0 0) = W7 at *
    have k0 : W7.cell? ⟨w.heap.size + 1 + 1, 0, none⟩ = some (.slice none 0 0) := cell_of_row _ (w.heap.size + 1 + 1) 0 _ _ _ HH
    have k1 : W7.cell? ⟨w.heap.size + 1 + 1, 1, none⟩ = some (.slice none 0 0) := cell_of_row _ (w.heap.size + 1 + 1) 1 _ _ _ HH
    have k2 : W7.cell? ⟨w.heap.size + 1 + 1, 2, none⟩ = some (.slice none 0 0) := cell_of_row _ (w.heap.size + 1 + 1) 2 _ _ _ HH
    have k3 : W7.cell? ⟨w.heap.size + 1 + 1, 3, none⟩ = some (.slice none 0 0) := cell_of_row _ (w.heap.size + 1 + 1) 3 _ _ _ HH
    have k4 : W7.cell? ⟨w.heap.size + 1 + 1, 4, none⟩ = some (.slice none 0 0) := cell_of_row _ (w.heap.size + 1 + 1) 4 _ _ _ HH
    have k5 : W7.cell? ⟨w.heap.size + 1 + 1, 5, none⟩ = some (.slice none 0 0) := cell_of_row _ (w.heap.size + 1 + 1) 5 _ _ _ HH
    have k6 : W7.cell? ⟨w.heap.size + 1 + 1, 6, none⟩ = some (.slice none 0 0) := cell_of_row _ (w.heap.size + 1 + 1) 6 _ _ _ HH
    exact bodyPost_ret (v := .tuple #[.agg #[.slice none 0 0, .slice none 0 0, .slice none 0 0, .slice none 0 0, .slice none 0 0, .slice none 0 0, .slice none 0 0], .int .i64 1]) (by simp [results, Tryz.results18, go_sem, k0, k1, k2, k3, k4, k5, k6, Tryz.sizeOf30]) rfl ⟨rfl, HBW⟩
end Go.Proofs.YtmfnholhhakgaaaGreatDoor
