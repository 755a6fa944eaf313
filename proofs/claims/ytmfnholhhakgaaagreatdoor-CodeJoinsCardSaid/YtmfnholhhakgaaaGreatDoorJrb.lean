/- The reference of chapter 14: Join: what its walk carries on; appends out of a row that is read. -/
import Derived.Test.YtmfnholhhakgaaaGreatDoorJra
import Derived.Test.YtmfnholhhakgaaaGreatDoorJrs
import Derived.Test.YtmfnholhhakgaaaGreatDoorMga
import Derived.Test.YtmfnholhhakgaaaGreatDoorJnc
import Derived.Test.YtmfnholhhakgaaaGreatDoorRfd
namespace Go.Proofs.YtmfnholhhakgaaaGreatDoor
open Go Go.Proofs Go.RowKit Go.Sort
theorem JOut.push4 {M O : Nat} {w w1 : World} {v0 v1 v2 v3 v4 v5 v6 v' : Value} {n0 n1 n2 n3 n4 n5 n6 n' : Nat} {x0 x1 x2 x3 x4 x5 x6 x' : List Value} (H : JOut M O w v0 v1 v2 v3 v4 v5 v6 n0 n1 n2 n3 n4 n5 n6 x0 x1 x2 x3 x4 x5 x6) (ho : w1.ownsRow (M + 1) 9 1 v' n' x') (hg : w.grownBy w1 v4.ownBlock) :
    JOut M O (w1.setCell ⟨O, 4, none⟩ v') v0 v1 v2 v3 v' v5 v6 n0 n1 n2 n3 n' n5 n6 x0 x1 x2 x3 x' x5 x6 := by
  have hlt := (Array.getElem?_eq_some_iff.1 H.o).1
  have hO : w1.heap[O]? = some (.cells #[v0, v1, v2, v3, v4, v5, v6] 30 (0, 0)) := (hg.block O hlt (fun e => own_ne30 H.r4 H.o (by decide) e.symm)).trans H.o
  have hk : ∀ {e : TypeId} {size : Nat} {v : Value} {n : Nat} {xs : List Value}, w.ownsRow (M + 1) e size v n xs → e ≠ 9 → 30 ≠ e → (w1.setCell ⟨O, 4, none⟩ v').ownsRow (M + 1) e size v n xs := fun h he h3 => own_setCell30 (own_kept_ty h H.r4 he hg) hO h3 v'
  exact { lo := H.lo, o := heap_setCell_at hO v', r0 := hk H.r0 (by decide) (by decide), r1 := hk H.r1 (by decide) (by decide), r2 := hk H.r2 (by decide) (by decide), r3 := hk H.r3 (by decide) (by decide), r4 := own_setCell30 ho hO (by decide) v', r5 := hk H.r5 (by decide) (by decide), r6 := hk H.r6 (by decide) (by decide) }
theorem JOut.push5 {M O : Nat} {w w1 : World} {v0 v1 v2 v3 v4 v5 v6 v' : Value} {n0 n1 n2 n3 n4 n5 n6 n' : Nat} {x0 x1 x2 x3 x4 x5 x6 x' : List Value} (H : JOut M O w v0 v1 v2 v3 v4 v5 v6 n0 n1 n2 n3 n4 n5 n6 x0 x1 x2 x3 x4 x5 x6) (ho : w1.ownsRow (M + 1) 99 2 v' n' x') (hg : w.grownBy w1 v5.ownBlock) :
    JOut M O (w1.setCell ⟨O, 5, none⟩ v') v0 v1 v2 v3 v4 v' v6 n0 n1 n2 n3 n4 n' n6 x0 x1 x2 x3 x4 x' x6 := by
  have hlt := (Array.getElem?_eq_some_iff.1 H.o).1
  have hO : w1.heap[O]? = some (.cells #[v0, v1, v2, v3, v4, v5, v6] 30 (0, 0)) := (hg.block O hlt (fun e => own_ne30 H.r5 H.o (by decide) e.symm)).trans H.o
  have hk : ∀ {e : TypeId} {size : Nat} {v : Value} {n : Nat} {xs : List Value}, w.ownsRow (M + 1) e size v n xs → e ≠ 99 → 30 ≠ e → (w1.setCell ⟨O, 5, none⟩ v').ownsRow (M + 1) e size v n xs := fun h he h3 => own_setCell30 (own_kept_ty h H.r5 he hg) hO h3 v'
  exact { lo := H.lo, o := heap_setCell_at hO v', r0 := hk H.r0 (by decide) (by decide), r1 := hk H.r1 (by decide) (by decide), r2 := hk H.r2 (by decide) (by decide), r3 := hk H.r3 (by decide) (by decide), r4 := hk H.r4 (by decide) (by decide), r5 := own_setCell30 ho hO (by decide) v', r6 := hk H.r6 (by decide) (by decide) }
theorem JOut.push6 {M O : Nat} {w w1 : World} {v0 v1 v2 v3 v4 v5 v6 v' : Value} {n0 n1 n2 n3 n4 n5 n6 n' : Nat} {x0 x1 x2 x3 x4 x5 x6 x' : List Value} (H : JOut M O w v0 v1 v2 v3 v4 v5 v6 n0 n1 n2 n3 n4 n5 n6 x0 x1 x2 x3 x4 x5 x6) (ho : w1.ownsRow (M + 1) 3 1 v' n' x') (hg : w.grownBy w1 v6.ownBlock) :
    JOut M O (w1.setCell ⟨O, 6, none⟩ v') v0 v1 v2 v3 v4 v5 v' n0 n1 n2 n3 n4 n5 n' x0 x1 x2 x3 x4 x5 x' := by
  have hlt := (Array.getElem?_eq_some_iff.1 H.o).1
  have hO : w1.heap[O]? = some (.cells #[v0, v1, v2, v3, v4, v5, v6] 30 (0, 0)) := (hg.block O hlt (fun e => own_ne30 H.r6 H.o (by decide) e.symm)).trans H.o
  have hk : ∀ {e : TypeId} {size : Nat} {v : Value} {n : Nat} {xs : List Value}, w.ownsRow (M + 1) e size v n xs → e ≠ 3 → 30 ≠ e → (w1.setCell ⟨O, 6, none⟩ v').ownsRow (M + 1) e size v n xs := fun h he h3 => own_setCell30 (own_kept_ty h H.r6 he hg) hO h3 v'
  exact { lo := H.lo, o := heap_setCell_at hO v', r0 := hk H.r0 (by decide) (by decide), r1 := hk H.r1 (by decide) (by decide), r2 := hk H.r2 (by decide) (by decide), r3 := hk H.r3 (by decide) (by decide), r4 := hk H.r4 (by decide) (by decide), r5 := hk H.r5 (by decide) (by decide), r6 := own_setCell30 ho hO (by decide) v' }
/-- The two codes' boxes (N, N + 1), the result's (N + 2), and that of what is made (N + 3). -/
structure RJ (N : Nat) (h g : CodeH) (w wr : World) (v0 v1 v2 v3 v4 v5 v6 : Value) (n0 n1 n2 n3 n4 n5 n6 : Nat) (x0 x1 x2 x3 x4 x5 x6 : List Value) : Prop where
  s : SInv N h g w wr
  r : wr.heap[N + 2]? = some (.cells #[.slice none 0 0, .slice none 0 0, .slice none 0 0, .slice none 0 0, .slice none 0 0, .slice none 0 0, .slice none 0 0, .int .i64 0] 40 (0, 0))
  j : JOut (N + 2) (N + 3) wr v0 v1 v2 v3 v4 v5 v6 n0 n1 n2 n3 n4 n5 n6 x0 x1 x2 x3 x4 x5 x6
theorem RJ.lt {N : Nat} {h g : CodeH} {w wr : World} {v0 v1 v2 v3 v4 v5 v6 : Value} {n0 n1 n2 n3 n4 n5 n6 : Nat} {x0 x1 x2 x3 x4 x5 x6 : List Value} (H : RJ N h g w wr v0 v1 v2 v3 v4 v5 v6 n0 n1 n2 n3 n4 n5 n6 x0 x1 x2 x3 x4 x5 x6) : N + 3 < wr.heap.size := (Array.getElem?_eq_some_iff.1 H.j.o).1
theorem RJ.below {N : Nat} {h g : CodeH} {w wr wx : World} {v0 v1 v2 v3 v4 v5 v6 : Value} {n0 n1 n2 n3 n4 n5 n6 : Nat} {x0 x1 x2 x3 x4 x5 x6 : List Value} (H : RJ N h g w wr v0 v1 v2 v3 v4 v5 v6 n0 n1 n2 n3 n4 n5 n6 x0 x1 x2 x3 x4 x5 x6) (hb : Below wr.heap.size wr wx) : RJ N h g w wx v0 v1 v2 v3 v4 v5 v6 n0 n1 n2 n3 n4 n5 n6 x0 x1 x2 x3 x4 x5 x6 :=
  { s := H.s.below hb, r := (hb.block _ (Array.getElem?_eq_some_iff.1 H.r).1).trans H.r, j := H.j.below hb }
theorem RJ.drew {N : Nat} {h g : CodeH} {w wr : World} {v0 v1 v2 v3 v4 v5 v6 : Value} {n0 n1 n2 n3 n4 n5 n6 : Nat} {x0 x1 x2 x3 x4 x5 x6 : List Value} (H : RJ N h g w wr v0 v1 v2 v3 v4 v5 v6 n0 n1 n2 n3 n4 n5 n6 x0 x1 x2 x3 x4 x5 x6) : RJ N h g w wr.drew v0 v1 v2 v3 v4 v5 v6 n0 n1 n2 n3 n4 n5 n6 x0 x1 x2 x3 x4 x5 x6 := H.below ((Below.refl _ _).drew)
theorem RJ.alloc {N : Nat} {h g : CodeH} {w wr : World} {v0 v1 v2 v3 v4 v5 v6 : Value} {n0 n1 n2 n3 n4 n5 n6 : Nat} {x0 x1 x2 x3 x4 x5 x6 : List Value} (H : RJ N h g w wr v0 v1 v2 v3 v4 v5 v6 n0 n1 n2 n3 n4 n5 n6 x0 x1 x2 x3 x4 x5 x6) (o : Obj) : RJ N h g w (wr.alloc o) v0 v1 v2 v3 v4 v5 v6 n0 n1 n2 n3 n4 n5 n6 x0 x1 x2 x3 x4 x5 x6 := H.below ((Below.refl _ _).alloc (Nat.le_refl _) o)
theorem RJ.grow0 {N : Nat} {h g : CodeH} {w wr w1 : World} {v0 v1 v2 v3 v4 v5 v6 : Value} {n0 n1 n2 n3 n4 n5 n6 : Nat} {x0 x1 x2 x3 x4 x5 x6 : List Value} (H : RJ N h g w wr v0 v1 v2 v3 v4 v5 v6 n0 n1 n2 n3 n4 n5 n6 x0 x1 x2 x3 x4 x5 x6) (hg : wr.grownBy w1 v0.ownBlock) : Below (N + 3) wr w1 :=
  (Below.refl (N + 3) wr).grown hg (Nat.le_of_lt H.lt) (fun q hq => (H.j.r0.lt q hq).1)
theorem RJ.keep0 {N : Nat} {h g : CodeH} {w wr w1 : World} {v0 v1 v2 v3 v4 v5 v6 : Value} {n0 n1 n2 n3 n4 n5 n6 : Nat} {x0 x1 x2 x3 x4 x5 x6 : List Value} (H : RJ N h g w wr v0 v1 v2 v3 v4 v5 v6 n0 n1 n2 n3 n4 n5 n6 x0 x1 x2 x3 x4 x5 x6) (hg : wr.grownBy w1 v0.ownBlock) :
    w1.cell? ⟨N + 3, 0, none⟩ = some v0 ∧ w1.frozen? ⟨N + 3, 0, none⟩ = false := by
  have hO := (hg.block (N + 3) (Array.getElem?_eq_some_iff.1 H.j.o).1 (fun e => own_ne30 H.j.r0 H.j.o (by decide) e.symm)).trans H.j.o
  exact ⟨cell_of_row w1 (N + 3) 0 _ 30 (0, 0) hO, by simp [World.frozen?, hO]⟩
theorem RJ.sinv0 {N : Nat} {h g : CodeH} {w wr w1 : World} {v0 v1 v2 v3 v4 v5 v6 : Value} {n0 n1 n2 n3 n4 n5 n6 : Nat} {x0 x1 x2 x3 x4 x5 x6 : List Value} (H : RJ N h g w wr v0 v1 v2 v3 v4 v5 v6 n0 n1 n2 n3 n4 n5 n6 x0 x1 x2 x3 x4 x5 x6) (hg : wr.grownBy w1 v0.ownBlock) : SInv N h g w w1 :=
  H.s.to ((Below.refl (N + 2) wr).grown hg H.s.z (fun q hq => by have := (H.j.r0.lt q hq).1; omega))
theorem RJ.push0 {N : Nat} {h g : CodeH} {w wr w1 : World} {v0 v1 v2 v3 v4 v5 v6 v' : Value} {n0 n1 n2 n3 n4 n5 n6 n' : Nat} {x0 x1 x2 x3 x4 x5 x6 x' : List Value} (H : RJ N h g w wr v0 v1 v2 v3 v4 v5 v6 n0 n1 n2 n3 n4 n5 n6 x0 x1 x2 x3 x4 x5 x6) (ho : w1.ownsRow (N + 3) 52 4 v' n' x') (hg : wr.grownBy w1 v0.ownBlock) :
    RJ N h g w (w1.setCell ⟨N + 3, 0, none⟩ v') v' v1 v2 v3 v4 v5 v6 n' n1 n2 n3 n4 n5 n6 x' x1 x2 x3 x4 x5 x6 := by
  have hz := H.lt
  have hb : Below (N + 3) wr (w1.setCell ⟨N + 3, 0, none⟩ v') := ((Below.refl (N + 3) wr).grown hg (by omega) (fun q hq => (H.j.r0.lt q hq).1)).setCell (p := ⟨N + 3, 0, none⟩) (Nat.le_refl _) v'
  exact { s := H.s.to (hb.mono (by omega)), r := (hb.block _ (by omega)).trans H.r, j := H.j.push0 ho hg }
theorem RJ.grow1 {N : Nat} {h g : CodeH} {w wr w1 : World} {v0 v1 v2 v3 v4 v5 v6 : Value} {n0 n1 n2 n3 n4 n5 n6 : Nat} {x0 x1 x2 x3 x4 x5 x6 : List Value} (H : RJ N h g w wr v0 v1 v2 v3 v4 v5 v6 n0 n1 n2 n3 n4 n5 n6 x0 x1 x2 x3 x4 x5 x6) (hg : wr.grownBy w1 v1.ownBlock) : Below (N + 3) wr w1 :=
  (Below.refl (N + 3) wr).grown hg (Nat.le_of_lt H.lt) (fun q hq => (H.j.r1.lt q hq).1)
theorem RJ.keep1 {N : Nat} {h g : CodeH} {w wr w1 : World} {v0 v1 v2 v3 v4 v5 v6 : Value} {n0 n1 n2 n3 n4 n5 n6 : Nat} {x0 x1 x2 x3 x4 x5 x6 : List Value} (H : RJ N h g w wr v0 v1 v2 v3 v4 v5 v6 n0 n1 n2 n3 n4 n5 n6 x0 x1 x2 x3 x4 x5 x6) (hg : wr.grownBy w1 v1.ownBlock) :
    w1.cell? ⟨N + 3, 1, none⟩ = some v1 ∧ w1.frozen? ⟨N + 3, 1, none⟩ = false := by
  have hO := (hg.block (N + 3) (Array.getElem?_eq_some_iff.1 H.j.o).1 (fun e => own_ne30 H.j.r1 H.j.o (by decide) e.symm)).trans H.j.o
  exact ⟨cell_of_row w1 (N + 3) 1 _ 30 (0, 0) hO, by simp [World.frozen?, hO]⟩
theorem RJ.sinv1 {N : Nat} {h g : CodeH} {w wr w1 : World} {v0 v1 v2 v3 v4 v5 v6 : Value} {n0 n1 n2 n3 n4 n5 n6 : Nat} {x0 x1 x2 x3 x4 x5 x6 : List Value} (H : RJ N h g w wr v0 v1 v2 v3 v4 v5 v6 n0 n1 n2 n3 n4 n5 n6 x0 x1 x2 x3 x4 x5 x6) (hg : wr.grownBy w1 v1.ownBlock) : SInv N h g w w1 :=
  H.s.to ((Below.refl (N + 2) wr).grown hg H.s.z (fun q hq => by have := (H.j.r1.lt q hq).1; omega))
theorem RJ.push1 {N : Nat} {h g : CodeH} {w wr w1 : World} {v0 v1 v2 v3 v4 v5 v6 v' : Value} {n0 n1 n2 n3 n4 n5 n6 n' : Nat} {x0 x1 x2 x3 x4 x5 x6 x' : List Value} (H : RJ N h g w wr v0 v1 v2 v3 v4 v5 v6 n0 n1 n2 n3 n4 n5 n6 x0 x1 x2 x3 x4 x5 x6) (ho : w1.ownsRow (N + 3) 78 5 v' n' x') (hg : wr.grownBy w1 v1.ownBlock) :
    RJ N h g w (w1.setCell ⟨N + 3, 1, none⟩ v') v0 v' v2 v3 v4 v5 v6 n0 n' n2 n3 n4 n5 n6 x0 x' x2 x3 x4 x5 x6 := by
  have hz := H.lt
  have hb : Below (N + 3) wr (w1.setCell ⟨N + 3, 1, none⟩ v') := ((Below.refl (N + 3) wr).grown hg (by omega) (fun q hq => (H.j.r1.lt q hq).1)).setCell (p := ⟨N + 3, 1, none⟩) (Nat.le_refl _) v'
  exact { s := H.s.to (hb.mono (by omega)), r := (hb.block _ (by omega)).trans H.r, j := H.j.push1 ho hg }
theorem RJ.grow2 {N : Nat} {h g : CodeH} {w wr w1 : World} {v0 v1 v2 v3 v4 v5 v6 : Value} {n0 n1 n2 n3 n4 n5 n6 : Nat} {x0 x1 x2 x3 x4 x5 x6 : List Value} (H : RJ N h g w wr v0 v1 v2 v3 v4 v5 v6 n0 n1 n2 n3 n4 n5 n6 x0 x1 x2 x3 x4 x5 x6) (hg : wr.grownBy w1 v2.ownBlock) : Below (N + 3) wr w1 :=
  (Below.refl (N + 3) wr).grown hg (Nat.le_of_lt H.lt) (fun q hq => (H.j.r2.lt q hq).1)
theorem RJ.keep2 {N : Nat} {h g : CodeH} {w wr w1 : World} {v0 v1 v2 v3 v4 v5 v6 : Value} {n0 n1 n2 n3 n4 n5 n6 : Nat} {x0 x1 x2 x3 x4 x5 x6 : List Value} (H : RJ N h g w wr v0 v1 v2 v3 v4 v5 v6 n0 n1 n2 n3 n4 n5 n6 x0 x1 x2 x3 x4 x5 x6) (hg : wr.grownBy w1 v2.ownBlock) :
    w1.cell? ⟨N + 3, 2, none⟩ = some v2 ∧ w1.frozen? ⟨N + 3, 2, none⟩ = false := by
  have hO := (hg.block (N + 3) (Array.getElem?_eq_some_iff.1 H.j.o).1 (fun e => own_ne30 H.j.r2 H.j.o (by decide) e.symm)).trans H.j.o
  exact ⟨cell_of_row w1 (N + 3) 2 _ 30 (0, 0) hO, by simp [World.frozen?, hO]⟩
theorem RJ.sinv2 {N : Nat} {h g : CodeH} {w wr w1 : World} {v0 v1 v2 v3 v4 v5 v6 : Value} {n0 n1 n2 n3 n4 n5 n6 : Nat} {x0 x1 x2 x3 x4 x5 x6 : List Value} (H : RJ N h g w wr v0 v1 v2 v3 v4 v5 v6 n0 n1 n2 n3 n4 n5 n6 x0 x1 x2 x3 x4 x5 x6) (hg : wr.grownBy w1 v2.ownBlock) : SInv N h g w w1 :=
  H.s.to ((Below.refl (N + 2) wr).grown hg H.s.z (fun q hq => by have := (H.j.r2.lt q hq).1; omega))
theorem RJ.push2 {N : Nat} {h g : CodeH} {w wr w1 : World} {v0 v1 v2 v3 v4 v5 v6 v' : Value} {n0 n1 n2 n3 n4 n5 n6 n' : Nat} {x0 x1 x2 x3 x4 x5 x6 x' : List Value} (H : RJ N h g w wr v0 v1 v2 v3 v4 v5 v6 n0 n1 n2 n3 n4 n5 n6 x0 x1 x2 x3 x4 x5 x6) (ho : w1.ownsRow (N + 3) 94 3 v' n' x') (hg : wr.grownBy w1 v2.ownBlock) :
    RJ N h g w (w1.setCell ⟨N + 3, 2, none⟩ v') v0 v1 v' v3 v4 v5 v6 n0 n1 n' n3 n4 n5 n6 x0 x1 x' x3 x4 x5 x6 := by
  have hz := H.lt
  have hb : Below (N + 3) wr (w1.setCell ⟨N + 3, 2, none⟩ v') := ((Below.refl (N + 3) wr).grown hg (by omega) (fun q hq => (H.j.r2.lt q hq).1)).setCell (p := ⟨N + 3, 2, none⟩) (Nat.le_refl _) v'
  exact { s := H.s.to (hb.mono (by omega)), r := (hb.block _ (by omega)).trans H.r, j := H.j.push2 ho hg }
theorem RJ.grow3 {N : Nat} {h g : CodeH} {w wr w1 : World} {v0 v1 v2 v3 v4 v5 v6 : Value} {n0 n1 n2 n3 n4 n5 n6 : Nat} {x0 x1 x2 x3 x4 x5 x6 : List Value} (H : RJ N h g w wr v0 v1 v2 v3 v4 v5 v6 n0 n1 n2 n3 n4 n5 n6 x0 x1 x2 x3 x4 x5 x6) (hg : wr.grownBy w1 v3.ownBlock) : Below (N + 3) wr w1 :=
  (Below.refl (N + 3) wr).grown hg (Nat.le_of_lt H.lt) (fun q hq => (H.j.r3.lt q hq).1)
theorem RJ.keep3 {N : Nat} {h g : CodeH} {w wr w1 : World} {v0 v1 v2 v3 v4 v5 v6 : Value} {n0 n1 n2 n3 n4 n5 n6 : Nat} {x0 x1 x2 x3 x4 x5 x6 : List Value} (H : RJ N h g w wr v0 v1 v2 v3 v4 v5 v6 n0 n1 n2 n3 n4 n5 n6 x0 x1 x2 x3 x4 x5 x6) (hg : wr.grownBy w1 v3.ownBlock) :
    w1.cell? ⟨N + 3, 3, none⟩ = some v3 ∧ w1.frozen? ⟨N + 3, 3, none⟩ = false := by
  have hO := (hg.block (N + 3) (Array.getElem?_eq_some_iff.1 H.j.o).1 (fun e => own_ne30 H.j.r3 H.j.o (by decide) e.symm)).trans H.j.o
  exact ⟨cell_of_row w1 (N + 3) 3 _ 30 (0, 0) hO, by simp [World.frozen?, hO]⟩
theorem RJ.sinv3 {N : Nat} {h g : CodeH} {w wr w1 : World} {v0 v1 v2 v3 v4 v5 v6 : Value} {n0 n1 n2 n3 n4 n5 n6 : Nat} {x0 x1 x2 x3 x4 x5 x6 : List Value} (H : RJ N h g w wr v0 v1 v2 v3 v4 v5 v6 n0 n1 n2 n3 n4 n5 n6 x0 x1 x2 x3 x4 x5 x6) (hg : wr.grownBy w1 v3.ownBlock) : SInv N h g w w1 :=
  H.s.to ((Below.refl (N + 2) wr).grown hg H.s.z (fun q hq => by have := (H.j.r3.lt q hq).1; omega))
theorem RJ.push3 {N : Nat} {h g : CodeH} {w wr w1 : World} {v0 v1 v2 v3 v4 v5 v6 v' : Value} {n0 n1 n2 n3 n4 n5 n6 n' : Nat} {x0 x1 x2 x3 x4 x5 x6 x' : List Value} (H : RJ N h g w wr v0 v1 v2 v3 v4 v5 v6 n0 n1 n2 n3 n4 n5 n6 x0 x1 x2 x3 x4 x5 x6) (ho : w1.ownsRow (N + 3) 28 1 v' n' x') (hg : wr.grownBy w1 v3.ownBlock) :
    RJ N h g w (w1.setCell ⟨N + 3, 3, none⟩ v') v0 v1 v2 v' v4 v5 v6 n0 n1 n2 n' n4 n5 n6 x0 x1 x2 x' x4 x5 x6 := by
  have hz := H.lt
  have hb : Below (N + 3) wr (w1.setCell ⟨N + 3, 3, none⟩ v') := ((Below.refl (N + 3) wr).grown hg (by omega) (fun q hq => (H.j.r3.lt q hq).1)).setCell (p := ⟨N + 3, 3, none⟩) (Nat.le_refl _) v'
  exact { s := H.s.to (hb.mono (by omega)), r := (hb.block _ (by omega)).trans H.r, j := H.j.push3 ho hg }
theorem RJ.grow4 {N : Nat} {h g : CodeH} {w wr w1 : World} {v0 v1 v2 v3 v4 v5 v6 : Value} {n0 n1 n2 n3 n4 n5 n6 : Nat} {x0 x1 x2 x3 x4 x5 x6 : List Value} (H : RJ N h g w wr v0 v1 v2 v3 v4 v5 v6 n0 n1 n2 n3 n4 n5 n6 x0 x1 x2 x3 x4 x5 x6) (hg : wr.grownBy w1 v4.ownBlock) : Below (N + 3) wr w1 :=
  (Below.refl (N + 3) wr).grown hg (Nat.le_of_lt H.lt) (fun q hq => (H.j.r4.lt q hq).1)
theorem RJ.keep4 {N : Nat} {h g : CodeH} {w wr w1 : World} {v0 v1 v2 v3 v4 v5 v6 : Value} {n0 n1 n2 n3 n4 n5 n6 : Nat} {x0 x1 x2 x3 x4 x5 x6 : List Value} (H : RJ N h g w wr v0 v1 v2 v3 v4 v5 v6 n0 n1 n2 n3 n4 n5 n6 x0 x1 x2 x3 x4 x5 x6) (hg : wr.grownBy w1 v4.ownBlock) :
    w1.cell? ⟨N + 3, 4, none⟩ = some v4 ∧ w1.frozen? ⟨N + 3, 4, none⟩ = false := by
  have hO := (hg.block (N + 3) (Array.getElem?_eq_some_iff.1 H.j.o).1 (fun e => own_ne30 H.j.r4 H.j.o (by decide) e.symm)).trans H.j.o
  exact ⟨cell_of_row w1 (N + 3) 4 _ 30 (0, 0) hO, by simp [World.frozen?, hO]⟩
theorem RJ.sinv4 {N : Nat} {h g : CodeH} {w wr w1 : World} {v0 v1 v2 v3 v4 v5 v6 : Value} {n0 n1 n2 n3 n4 n5 n6 : Nat} {x0 x1 x2 x3 x4 x5 x6 : List Value} (H : RJ N h g w wr v0 v1 v2 v3 v4 v5 v6 n0 n1 n2 n3 n4 n5 n6 x0 x1 x2 x3 x4 x5 x6) (hg : wr.grownBy w1 v4.ownBlock) : SInv N h g w w1 :=
  H.s.to ((Below.refl (N + 2) wr).grown hg H.s.z (fun q hq => by have := (H.j.r4.lt q hq).1; omega))
theorem RJ.push4 {N : Nat} {h g : CodeH} {w wr w1 : World} {v0 v1 v2 v3 v4 v5 v6 v' : Value} {n0 n1 n2 n3 n4 n5 n6 n' : Nat} {x0 x1 x2 x3 x4 x5 x6 x' : List Value} (H : RJ N h g w wr v0 v1 v2 v3 v4 v5 v6 n0 n1 n2 n3 n4 n5 n6 x0 x1 x2 x3 x4 x5 x6) (ho : w1.ownsRow (N + 3) 9 1 v' n' x') (hg : wr.grownBy w1 v4.ownBlock) :
    RJ N h g w (w1.setCell ⟨N + 3, 4, none⟩ v') v0 v1 v2 v3 v' v5 v6 n0 n1 n2 n3 n' n5 n6 x0 x1 x2 x3 x' x5 x6 := by
  have hz := H.lt
  have hb : Below (N + 3) wr (w1.setCell ⟨N + 3, 4, none⟩ v') := ((Below.refl (N + 3) wr).grown hg (by omega) (fun q hq => (H.j.r4.lt q hq).1)).setCell (p := ⟨N + 3, 4, none⟩) (Nat.le_refl _) v'
  exact { s := H.s.to (hb.mono (by omega)), r := (hb.block _ (by omega)).trans H.r, j := H.j.push4 ho hg }
theorem RJ.grow5 {N : Nat} {h g : CodeH} {w wr w1 : World} {v0 v1 v2 v3 v4 v5 v6 : Value} {n0 n1 n2 n3 n4 n5 n6 : Nat} {x0 x1 x2 x3 x4 x5 x6 : List Value} (H : RJ N h g w wr v0 v1 v2 v3 v4 v5 v6 n0 n1 n2 n3 n4 n5 n6 x0 x1 x2 x3 x4 x5 x6) (hg : wr.grownBy w1 v5.ownBlock) : Below (N + 3) wr w1 :=
  (Below.refl (N + 3) wr).grown hg (Nat.le_of_lt H.lt) (fun q hq => (H.j.r5.lt q hq).1)
theorem RJ.keep5 {N : Nat} {h g : CodeH} {w wr w1 : World} {v0 v1 v2 v3 v4 v5 v6 : Value} {n0 n1 n2 n3 n4 n5 n6 : Nat} {x0 x1 x2 x3 x4 x5 x6 : List Value} (H : RJ N h g w wr v0 v1 v2 v3 v4 v5 v6 n0 n1 n2 n3 n4 n5 n6 x0 x1 x2 x3 x4 x5 x6) (hg : wr.grownBy w1 v5.ownBlock) :
    w1.cell? ⟨N + 3, 5, none⟩ = some v5 ∧ w1.frozen? ⟨N + 3, 5, none⟩ = false := by
  have hO := (hg.block (N + 3) (Array.getElem?_eq_some_iff.1 H.j.o).1 (fun e => own_ne30 H.j.r5 H.j.o (by decide) e.symm)).trans H.j.o
  exact ⟨cell_of_row w1 (N + 3) 5 _ 30 (0, 0) hO, by simp [World.frozen?, hO]⟩
theorem RJ.sinv5 {N : Nat} {h g : CodeH} {w wr w1 : World} {v0 v1 v2 v3 v4 v5 v6 : Value} {n0 n1 n2 n3 n4 n5 n6 : Nat} {x0 x1 x2 x3 x4 x5 x6 : List Value} (H : RJ N h g w wr v0 v1 v2 v3 v4 v5 v6 n0 n1 n2 n3 n4 n5 n6 x0 x1 x2 x3 x4 x5 x6) (hg : wr.grownBy w1 v5.ownBlock) : SInv N h g w w1 :=
  H.s.to ((Below.refl (N + 2) wr).grown hg H.s.z (fun q hq => by have := (H.j.r5.lt q hq).1; omega))
theorem RJ.push5 {N : Nat} {h g : CodeH} {w wr w1 : World} {v0 v1 v2 v3 v4 v5 v6 v' : Value} {n0 n1 n2 n3 n4 n5 n6 n' : Nat} {x0 x1 x2 x3 x4 x5 x6 x' : List Value} (H : RJ N h g w wr v0 v1 v2 v3 v4 v5 v6 n0 n1 n2 n3 n4 n5 n6 x0 x1 x2 x3 x4 x5 x6) (ho : w1.ownsRow (N + 3) 99 2 v' n' x') (hg : wr.grownBy w1 v5.ownBlock) :
    RJ N h g w (w1.setCell ⟨N + 3, 5, none⟩ v') v0 v1 v2 v3 v4 v' v6 n0 n1 n2 n3 n4 n' n6 x0 x1 x2 x3 x4 x' x6 := by
  have hz := H.lt
  have hb : Below (N + 3) wr (w1.setCell ⟨N + 3, 5, none⟩ v') := ((Below.refl (N + 3) wr).grown hg (by omega) (fun q hq => (H.j.r5.lt q hq).1)).setCell (p := ⟨N + 3, 5, none⟩) (Nat.le_refl _) v'
  exact { s := H.s.to (hb.mono (by omega)), r := (hb.block _ (by omega)).trans H.r, j := H.j.push5 ho hg }
theorem RJ.grow6 {N : Nat} {h g : CodeH} {w wr w1 : World} {v0 v1 v2 v3 v4 v5 v6 : Value} {n0 n1 n2 n3 n4 n5 n6 : Nat} {x0 x1 x2 x3 x4 x5 x6 : List Value} (H : RJ N h g w wr v0 v1 v2 v3 v4 v5 v6 n0 n1 n2 n3 n4 n5 n6 x0 x1 x2 x3 x4 x5 x6) (hg : wr.grownBy w1 v6.ownBlock) : Below (N + 3) wr w1 :=
  (Below.refl (N + 3) wr).grown hg (Nat.le_of_lt H.lt) (fun q hq => (H.j.r6.lt q hq).1)
theorem RJ.keep6 {N : Nat} {h g : CodeH} {w wr w1 : World} {v0 v1 v2 v3 v4 v5 v6 : Value} {n0 n1 n2 n3 n4 n5 n6 : Nat} {x0 x1 x2 x3 x4 x5 x6 : List Value} (H : RJ N h g w wr v0 v1 v2 v3 v4 v5 v6 n0 n1 n2 n3 n4 n5 n6 x0 x1 x2 x3 x4 x5 x6) (hg : wr.grownBy w1 v6.ownBlock) :
    w1.cell? ⟨N + 3, 6, none⟩ = some v6 ∧ w1.frozen? ⟨N + 3, 6, none⟩ = false := by
  have hO := (hg.block (N + 3) (Array.getElem?_eq_some_iff.1 H.j.o).1 (fun e => own_ne30 H.j.r6 H.j.o (by decide) e.symm)).trans H.j.o
  exact ⟨cell_of_row w1 (N + 3) 6 _ 30 (0, 0) hO, by simp [World.frozen?, hO]⟩
theorem RJ.sinv6 {N : Nat} {h g : CodeH} {w wr w1 : World} {v0 v1 v2 v3 v4 v5 v6 : Value} {n0 n1 n2 n3 n4 n5 n6 : Nat} {x0 x1 x2 x3 x4 x5 x6 : List Value} (H : RJ N h g w wr v0 v1 v2 v3 v4 v5 v6 n0 n1 n2 n3 n4 n5 n6 x0 x1 x2 x3 x4 x5 x6) (hg : wr.grownBy w1 v6.ownBlock) : SInv N h g w w1 :=
  H.s.to ((Below.refl (N + 2) wr).grown hg H.s.z (fun q hq => by have := (H.j.r6.lt q hq).1; omega))
theorem RJ.push6 {N : Nat} {h g : CodeH} {w wr w1 : World} {v0 v1 v2 v3 v4 v5 v6 v' : Value} {n0 n1 n2 n3 n4 n5 n6 n' : Nat} {x0 x1 x2 x3 x4 x5 x6 x' : List Value} (H : RJ N h g w wr v0 v1 v2 v3 v4 v5 v6 n0 n1 n2 n3 n4 n5 n6 x0 x1 x2 x3 x4 x5 x6) (ho : w1.ownsRow (N + 3) 3 1 v' n' x') (hg : wr.grownBy w1 v6.ownBlock) :
    RJ N h g w (w1.setCell ⟨N + 3, 6, none⟩ v') v0 v1 v2 v3 v4 v5 v' n0 n1 n2 n3 n4 n5 n' x0 x1 x2 x3 x4 x5 x' := by
  have hz := H.lt
  have hb : Below (N + 3) wr (w1.setCell ⟨N + 3, 6, none⟩ v') := ((Below.refl (N + 3) wr).grown hg (by omega) (fun q hq => (H.j.r6.lt q hq).1)).setCell (p := ⟨N + 3, 6, none⟩) (Nat.le_refl _) v'
  exact { s := H.s.to (hb.mono (by omega)), r := (hb.block _ (by omega)).trans H.r, j := H.j.push6 ho hg }
/-- Elements that are read, appended to a row of the call's own. -/
theorem run_catR {t e : TypeId} {size bytes : Nat} {z : Value} (E : Elem t e size bytes z) (w : World) (ty : TypeId) (base : Nat) (v : Value) (n : Nat) (xs : List Value) (hown : w.ownsRow base e size v n xs)
    (B : Nat) (A : Option Addr) (m c : Nat) (news : List Value) (hr : Reads w B size A m news) (h1 : ∀ u ∈ news, u.oneCell' = true) (h63 : n + m ≤ 1000000000000) (hbase : base ≤ w.heap.size) :
    ∃ v' w', (Builtin.append_ #[t, t] ty #[v, .slice A m c]).run Tryz.prog w = .ok v' w' ∧ w'.ownsRow base e size v' (n + m) (xs ++ news) ∧ w.grownBy w' v.ownBlock := by
  cases A with
  | none =>
    obtain ⟨rfl, rfl⟩ := Reads.nil hr
    exact ⟨v, w, run_app_none base E ty v n c xs hown, by simpa using hown, ⟨rfl, rfl, rfl, Nat.le_refl _, fun _ _ _ => rfl⟩⟩
  | some ad =>
    obtain ⟨i, hi, hz, hsz, hby⟩ := E.i
    have hcells : ∀ j u, news[j]? = some u → w.cell? (ad.add j) = some u := fun j u hu => by
      rcases Nat.eq_zero_or_pos m with h0 | h0
      · have : news = [] := List.eq_nil_of_length_eq_zero (by have := hr.1; rw [h0] at this; simpa using this)
        rw [this] at hu
        simp at hu
      · obtain ⟨ad', he, _, hc⟩ := hr.2 h0
        cases he
        exact hc j u hu
    obtain ⟨v', w', h2, h3, h4, _⟩ := run_append_own (P := Tryz.prog) w base t ty e i z size bytes E.u hi hz hsz hby E.s E.p v n xs hown ad m c news hr.1 hcells h1 (by unfold maxLen; omega) (by
      have := E.b
      calc (n + m) * bytes ≤ 1000000000000 * 64 := Nat.mul_le_mul h63 this
        _ ≤ _ := by decide) hbase
    exact ⟨v', w', h2, h3, h4⟩
theorem wp_catR {t e : TypeId} {size bytes : Nat} {z : Value} (E : Elem t e size bytes z) {w : World} {o : Oper} {a : Act} {K : Act → World → Prop} {Q : Exit → Act → World → Prop} (s x : Operand)
    (ho : o.op = .call { callee := .builtin .append, args := #[s, x], argTypes := #[t, t] }) (base : Nat) (v : Value) (n : Nat) (xs : List Value) (hs : a.eval s = v) (hown : w.ownsRow base e size v n xs)
    (B : Nat) (A : Option Addr) (m c : Nat) (news : List Value) (hx : a.eval x = .slice A m c) (hr : Reads w B size A m news) (h1 : ∀ u ∈ news, u.oneCell' = true)
    (h63 : n + m ≤ 1000000000000) (hbase : base ≤ w.heap.size)
    (h : ∀ v' w', w'.ownsRow base e size v' (n + m) (xs ++ news) → w.grownBy w' v.ownBlock → K (a.put o.dst v') w') : o.wp Tryz.prog a w K Q := by
  obtain ⟨v', w', hrun, h3, h4⟩ := run_catR E w o.type base v n xs hown B A m c news hr h1 h63 hbase
  unfold Oper.wp
  simp [execOp, ho, resolve, invoke, builtin, hs, hx, hrun, Result.andThen]
  exact h v' w' h3 h4
theorem wpList_catR {t e : TypeId} {size bytes : Nat} {z : Value} (E : Elem t e size bytes z) {w : World} {ops : Array Oper} {rest : List Oper} {o : Oper} {a : Act} {Q : Exit → Act → World → Prop} (hw : Region.wanted o (yielded ops a.tmps) = true) (s x : Operand)
    (ho : o.op = .call { callee := .builtin .append, args := #[s, x], argTypes := #[t, t] }) (base : Nat) (v : Value) (n : Nat) (xs : List Value) (hs : a.eval s = v) (hown : w.ownsRow base e size v n xs)
    (B : Nat) (A : Option Addr) (m c : Nat) (news : List Value) (hx : a.eval x = .slice A m c) (hr : Reads w B size A m news) (h1 : ∀ u ∈ news, u.oneCell' = true)
    (h63 : n + m ≤ 1000000000000) (hbase : base ≤ w.heap.size)
    (h : ∀ v' w', w'.ownsRow base e size v' (n + m) (xs ++ news) → w.grownBy w' v.ownBlock → wpList Tryz.prog ops Q rest (a.put o.dst v') w') : wpList Tryz.prog ops Q (o :: rest) a w := by
  refine wpList_step fun K hK => ?_
  rw [if_pos hw]
  exact wp_catR E s x ho base v n xs hs hown B A m c news hx hr h1 h63 hbase fun v' w' h2 h3 => hK _ _ (h v' w' h2 h3)
theorem step_catR {t e : TypeId} {size bytes : Nat} {z : Value} (E : Elem t e size bytes z) {w : World} {ops : Array Oper} {o : Oper} {a : Act} {K : Act → World → Prop} {Q : Exit → Act → World → Prop} {R : Prop} (hgd : o.guard = none) (s x : Operand)
    (ho : o.op = .call { callee := .builtin .append, args := #[s, x], argTypes := #[t, t] }) (base : Nat) (v : Value) (n : Nat) (xs : List Value) (hs : a.eval s = v) (hown : w.ownsRow base e size v n xs)
    (B : Nat) (A : Option Addr) (m c : Nat) (news : List Value) (hx : a.eval x = .slice A m c) (hr : Reads w B size A m news) (h1 : ∀ u ∈ news, u.oneCell' = true)
    (h63 : n + m ≤ 1000000000000) (hbase : base ≤ w.heap.size)
    (h : ∀ v' w', w'.ownsRow base e size v' (n + m) (xs ++ news) → w.grownBy w' v.ownBlock → K (a.put o.dst v') w') :
    if Region.wanted o (yielded ops a.tmps) = true then Oper.wp Tryz.prog o a w K Q else R := by
  have hw : Region.wanted o (yielded ops a.tmps) = true := by simp [Region.wanted, hgd]
  rw [if_pos hw]
  exact wp_catR E s x ho base v n xs hs hown B A m c news hx hr h1 h63 hbase h
/-- A block just made, as a row that is read. -/
theorem reads_new (W : World) (cs : Array Value) (t size n : Nat) (hs : cs.size = n * size) : Reads (W.alloc (.cells cs t)) (W.heap.size + 1) size (some ⟨W.heap.size, 0, none⟩) n cs.toList := by
  refine ⟨by rw [Array.length_toList]; exact hs, fun _ => ⟨_, rfl, by simp, fun j u hu => ?_⟩⟩
  have e : (⟨W.heap.size, 0, none⟩ : Addr).add j = ⟨W.heap.size, j, none⟩ := by unfold Addr.add; split <;> simp_all
  rw [e, cell_of_row _ W.heap.size j _ t (0, 0) (heap_alloc_new W _), ← Array.getElem?_toList]
  exact hu
theorem own_shape {w : World} {base : Nat} {e : TypeId} {size : Nat} {v : Value} {n : Nat} {xs : List Value} (h : w.ownsRow base e size v n xs) : ∃ A c, v = .slice A n c := by
  rcases h.2 with ⟨h', h0⟩ | ⟨g, cap, cur, h', _⟩
  · exact ⟨none, 0, by rw [h', h0]⟩
  · exact ⟨_, _, h'⟩
theorem RJ.start (h g : CodeH) (w : World) : RJ w.heap.size h g w ((((w.alloc (.cells #[.slice h.i.a h.i.n h.i.c, .slice h.p.a h.p.n h.p.c, .slice h.t.a h.t.n h.t.c, .slice h.s.a h.s.n h.s.c, .slice h.g.a h.g.n h.g.c, .slice h.r.a h.r.n h.r.c, .slice h.o.a h.o.n h.o.c] 30)).alloc (.cells #[.slice g.i.a g.i.n g.i.c, .slice g.p.a g.p.n g.p.c, .slice g.t.a g.t.n g.t.c, .slice g.s.a g.s.n g.s.c, .slice g.g.a g.g.n g.g.c, .slice g.r.a g.r.n g.r.c, .slice g.o.a g.o.n g.o.c] 30)).alloc (.cells #[.slice none 0 0, .slice none 0 0, .slice none 0 0, .slice none 0 0, .slice none 0 0, .slice none 0 0, .slice none 0 0, .int .i64 0] 40)).alloc (.cells #[.slice none 0 0, .slice none 0 0, .slice none 0 0, .slice none 0 0, .slice none 0 0, .slice none 0 0, .slice none 0 0] 30)) (.slice none 0 0) (.slice none 0 0) (.slice none 0 0) (.slice none 0 0) (.slice none 0 0) (.slice none 0 0) (.slice none 0 0) 0 0 0 0 0 0 0 [] [] [] [] [] [] [] := by
  have e2 : ((w.alloc (.cells #[.slice h.i.a h.i.n h.i.c, .slice h.p.a h.p.n h.p.c, .slice h.t.a h.t.n h.t.c, .slice h.s.a h.s.n h.s.c, .slice h.g.a h.g.n h.g.c, .slice h.r.a h.r.n h.r.c, .slice h.o.a h.o.n h.o.c] 30)).alloc (.cells #[.slice g.i.a g.i.n g.i.c, .slice g.p.a g.p.n g.p.c, .slice g.t.a g.t.n g.t.c, .slice g.s.a g.s.n g.s.c, .slice g.g.a g.g.n g.g.c, .slice g.r.a g.r.n g.r.c, .slice g.o.a g.o.n g.o.c] 30)).heap.size = w.heap.size + 2 := by simp
  have e3 : (((w.alloc (.cells #[.slice h.i.a h.i.n h.i.c, .slice h.p.a h.p.n h.p.c, .slice h.t.a h.t.n h.t.c, .slice h.s.a h.s.n h.s.c, .slice h.g.a h.g.n h.g.c, .slice h.r.a h.r.n h.r.c, .slice h.o.a h.o.n h.o.c] 30)).alloc (.cells #[.slice g.i.a g.i.n g.i.c, .slice g.p.a g.p.n g.p.c, .slice g.t.a g.t.n g.t.c, .slice g.s.a g.s.n g.s.c, .slice g.g.a g.g.n g.g.c, .slice g.r.a g.r.n g.r.c, .slice g.o.a g.o.n g.o.c] 30)).alloc (.cells #[.slice none 0 0, .slice none 0 0, .slice none 0 0, .slice none 0 0, .slice none 0 0, .slice none 0 0, .slice none 0 0, .int .i64 0] 40)).heap.size = w.heap.size + 3 := by simp
  have hr := heap_alloc_new ((w.alloc (.cells #[.slice h.i.a h.i.n h.i.c, .slice h.p.a h.p.n h.p.c, .slice h.t.a h.t.n h.t.c, .slice h.s.a h.s.n h.s.c, .slice h.g.a h.g.n h.g.c, .slice h.r.a h.r.n h.r.c, .slice h.o.a h.o.n h.o.c] 30)).alloc (.cells #[.slice g.i.a g.i.n g.i.c, .slice g.p.a g.p.n g.p.c, .slice g.t.a g.t.n g.t.c, .slice g.s.a g.s.n g.s.c, .slice g.g.a g.g.n g.g.c, .slice g.r.a g.r.n g.r.c, .slice g.o.a g.o.n g.o.c] 30)) (.cells #[.slice none 0 0, .slice none 0 0, .slice none 0 0, .slice none 0 0, .slice none 0 0, .slice none 0 0, .slice none 0 0, .int .i64 0] 40)
  have ho := heap_alloc_new (((w.alloc (.cells #[.slice h.i.a h.i.n h.i.c, .slice h.p.a h.p.n h.p.c, .slice h.t.a h.t.n h.t.c, .slice h.s.a h.s.n h.s.c, .slice h.g.a h.g.n h.g.c, .slice h.r.a h.r.n h.r.c, .slice h.o.a h.o.n h.o.c] 30)).alloc (.cells #[.slice g.i.a g.i.n g.i.c, .slice g.p.a g.p.n g.p.c, .slice g.t.a g.t.n g.t.c, .slice g.s.a g.s.n g.s.c, .slice g.g.a g.g.n g.g.c, .slice g.r.a g.r.n g.r.c, .slice g.o.a g.o.n g.o.c] 30)).alloc (.cells #[.slice none 0 0, .slice none 0 0, .slice none 0 0, .slice none 0 0, .slice none 0 0, .slice none 0 0, .slice none 0 0, .int .i64 0] 40)) (.cells #[.slice none 0 0, .slice none 0 0, .slice none 0 0, .slice none 0 0, .slice none 0 0, .slice none 0 0, .slice none 0 0] 30)
  rw [e2] at hr
  rw [e3] at ho
  have on : ∀ W b e s, World.ownsRow W b e s (.slice none 0 0) 0 [] := fun W b e s => World.ownsRow_nil W b e s
  refine { s := ((SInv.start h g w).below ((Below.refl _ _).alloc (Nat.le_refl _) _)).below ((Below.refl _ _).alloc (Nat.le_refl _) _), r := (Below.heap_alloc _ _ _ (by rw [e3]; omega)).trans hr, j := { lo := Nat.lt_succ_self _, o := ho, r0 := on _ _ _ _, r1 := on _ _ _ _, r2 := on _ _ _ _, r3 := on _ _ _ _, r4 := on _ _ _ _, r5 := on _ _ _ _, r6 := on _ _ _ _ } }
/-- A call of a Go function of two arguments. -/
theorem op_fn2 {o : Oper} {a : Act} {w : World} {K : Act → World → Prop} {Q : Exit → Act → World → Prop} {x y t u f : Nat} (ho : o.op = .call { callee := .value (.func f), args := #[.tmp x, .tmp y], argTypes := #[t, u] }) (hf : Enters f) {vx vy r : Value} (hx : a.tmps.getD x undef = vx) (hy : a.tmps.getD y undef = vy)
    (hc : Calls Tryz.prog f #[vx, vy] w fun e w' => e = .returned r ∧ Below w.heap.size w w') (h : ∀ w', Below w.heap.size w w' → K (a.put o.dst r) w') : o.wp Tryz.prog a w K Q := by
  have hx' : a.tmps[x]?.getD undef = vx := by simpa using hx
  have hy' : a.tmps[y]?.getD undef = vy := by simpa using hy
  have he := hf #[vx, vy] w
  unfold Oper.wp
  simp [execOp, ho, resolve, invoke, hx', hy', go_sem, he]
  refine Calls.mono hc ?_
  rintro e w' ⟨rfl, hb⟩
  exact h w' hb
theorem op_bs28z {o : Oper} {a : Act} {w : World} {K : Act → World → Prop} {Q : Exit → Act → World → Prop} (ho : o.op = .buildSlice 28 0 #[]) (h : K (a.put o.dst (.slice (some ⟨w.heap.size, 0, none⟩) 0 0)) (w.alloc (.cells #[] 3))) : o.wp Tryz.prog a w K Q := by
  have hu := Tryz.underlying28
  have hs := Tryz.sizeOf3
  unfold Oper.wp
  simp [execOp, ho, go_sem, hs]
  exact h
theorem op_put26 {o : Oper} {a : Act} {w : World} {K : Act → World → Prop} {Q : Exit → Act → World → Prop} {x y O j : Nat} {v v0 : Value} (ho : o.op = .store 26 (.tmp x) (.tmp y)) (hx : a.tmps.getD x undef = .pointer (some ⟨O, j, none⟩)) (hy : a.tmps.getD y undef = v) (hs : IsSlice v) (hc : w.cell? ⟨O, j, none⟩ = some v0) (hf : w.frozen? ⟨O, j, none⟩ = false) (h : K (a.put o.dst undef) (w.setCell ⟨O, j, none⟩ v)) : o.wp Tryz.prog a w K Q := by
  obtain ⟨a0, n0, c0, rfl⟩ := hs
  simp only [Array.getD_eq_getD_getElem?] at hx hy
  have hu := Tryz.underlying26
  have hsz := Tryz.sizeOf26
  have ha := Tryz.isAgg26
  unfold Oper.wp
  simp [execOp, ho, hx, hy, go_sem, hsz, hc, hf]
  exact h
/-- The rows, whatever the result's box holds. -/
def JR (N : Nat) (W : World) (v0 v1 v2 v3 v4 v5 v6 : Value) (n0 n1 n2 n3 n4 n5 n6 : Nat) (x0 x1 x2 x3 x4 x5 x6 : List Value) (sh : List SH) (ls : List (List Int)) : Prop :=
  JOut (N + 2) (N + 3) W v0 v1 v2 v3 v4 v5 v6 n0 n1 n2 n3 n4 n5 n6 x0 x1 x2 x3 x4 x5 x6 ∧ JSw (N + 1) W sh ls ∧ ∃ cs, W.heap[N + 2]? = some (.cells cs 40 (0, 0))
theorem JR.set {N : Nat} {W : World} {v0 v1 v2 v3 v4 v5 v6 : Value} {n0 n1 n2 n3 n4 n5 n6 : Nat} {x0 x1 x2 x3 x4 x5 x6 : List Value} {sh : List SH} {ls : List (List Int)} (H : JR N W v0 v1 v2 v3 v4 v5 v6 n0 n1 n2 n3 n4 n5 n6 x0 x1 x2 x3 x4 x5 x6 sh ls) (i : Nat) (u : Value) : JR N (W.setCell ⟨N + 2, i, none⟩ u) v0 v1 v2 v3 v4 v5 v6 n0 n1 n2 n3 n4 n5 n6 x0 x1 x2 x3 x4 x5 x6 sh ls := by
  obtain ⟨hj, hs, cs, hr⟩ := H
  exact ⟨{ lo := hj.lo, o := (Below.heap_setCell W ⟨N + 2, i, none⟩ u (N + 3) (by simp)).trans hj.o, r0 := own_setCell30 hj.r0 hr (by decide) u, r1 := own_setCell30 hj.r1 hr (by decide) u, r2 := own_setCell30 hj.r2 hr (by decide) u, r3 := own_setCell30 hj.r3 hr (by decide) u, r4 := own_setCell30 hj.r4 hr (by decide) u, r5 := own_setCell30 hj.r5 hr (by decide) u, r6 := own_setCell30 hj.r6 hr (by decide) u }, hs.map fun v n xs h => own_setCell30 h hr (by decide) u, _, heap_setCell_at hr u⟩
/-- The code that is made, as data. -/
theorem rjoined_at {N Ba Bb : Nat} {h g : CodeH} {W wa wb : World} {z0 z1 z2 z3 z4 z5 z6 : SH} {sh : List SH} {a b : CodeD}
    (L : JOut (N + 2) (N + 3) W z0.v z1.v z2.v z3.v z4.v z5.v z6.v (h.i.n + g.i.n) (h.p.n + g.p.n) (h.t.n + g.t.n) (h.s.n + g.s.n) (h.g.n + g.g.n) (h.r.n + g.r.n) (h.o.n + g.o.n) (jI h a b g.i.n) (jP h a b g.p.n) (jT h a b g.t.n) (sh.map SH.v) (strCells a.strings ++ strCells b.strings) (a.reals.flatMap RealD.cells ++ b.reals.flatMap RealD.cells) (intCells a.owns ++ intCells b.owns))
    (J : JSw (N + 1) W sh (a.switches ++ b.switches.map (List.map (mv h.i.n)))) (Ha : CodeAt wa Ba h a) (Hb : CodeAt wb Bb g b) (fa : fineB a (largeB h) = true) (fb : fineB b (largeB g) = true)
    (hn : z0.n = h.i.n + g.i.n ∧ z1.n = h.p.n + g.p.n ∧ z2.n = h.t.n + g.t.n ∧ z3.n = h.s.n + g.s.n ∧ z4.n = h.g.n + g.g.n ∧ z5.n = h.r.n + g.r.n ∧ z6.n = h.o.n + g.o.n) :
    CodeAt W W.heap.size ⟨z0, z1, z2, z3, z4, z5, z6⟩ (joinD h a b) := by
  obtain ⟨n0, n1, n2, n3, n4, n5, n6⟩ := hn
  have k0 := Ha.ni; have k1 := Ha.np; have k2 := Ha.nt; have k3 := Ha.ns; have k4 := Ha.ng; have k5 := Ha.nr; have k6 := Ha.no
  have m0 := Hb.ni; have m1 := Hb.np; have m2 := Hb.nt; have m3 := Hb.ns; have m4 := Hb.ng; have m5 := Hb.nr; have m6 := Hb.no
  obtain ⟨_, i0, i1, i2, i3, i4, i5, i6⟩ := large_sizes (fine_well fa).1
  obtain ⟨_, j0, j1, j2, j3, j4, j5, j6⟩ := large_sizes (fine_well fb).1
  have e0 : (joinD h a b).instrs.length = h.i.n + g.i.n := by simp [joinD]; omega
  have e1 : (joinD h a b).procs.length = h.p.n + g.p.n := by simp [joinD]; omega
  have e2 : (joinD h a b).thunks.length = h.t.n + g.t.n := by simp [joinD]; omega
  have e3 : (joinD h a b).switches.length = h.s.n + g.s.n := by simp [joinD]; omega
  have e4 : (joinD h a b).strings.length = h.g.n + g.g.n := by simp [joinD]; omega
  have e5 : (joinD h a b).reals.length = h.r.n + g.r.n := by simp [joinD]; omega
  have e6 : (joinD h a b).owns.length = h.o.n + g.o.n := by simp [joinD]; omega
  have r0 := L.r0; have r1 := L.r1; have r2 := L.r2; have r3 := L.r3; have r4 := L.r4; have r5 := L.r5; have r6 := L.r6
  rw [jI_all m0.1, ← e0] at r0
  rw [jP_all m1.1, ← e1] at r1
  rw [jT_all m2.1, ← e2] at r2
  rw [← e3] at r3
  rw [show strCells a.strings ++ strCells b.strings = strCells (joinD h a b).strings from by simp [joinD, strCells], ← e4] at r4
  rw [show a.reals.flatMap RealD.cells ++ b.reals.flatMap RealD.cells = (joinD h a b).reals.flatMap RealD.cells from by simp [joinD], ← e5] at r5
  rw [show intCells a.owns ++ intCells b.owns = intCells (joinD h a b).owns from by simp [joinD, intCells], ← e6] at r6
  refine joined_at r0 r1 r2 r3 r4 r5 r6 J (n0.trans e0.symm) (n1.trans e1.symm) (n2.trans e2.symm) (n3.trans e3.symm) (n4.trans e4.symm) (n5.trans e5.symm) (n6.trans e6.symm) ?_ ?_ ?_ ?_ ?_ ?_ ?_ ?_ ?_ ?_
  iterate 7 (unfold Small; omega)
  · intro l hl
    have h1 := sw_length Ha fa
    have h2 := sw_length Hb fb
    unfold joinD at hl
    simp only [List.mem_append, List.mem_map] at hl
    unfold Small
    rcases hl with hl | ⟨x, hx, rfl⟩
    · have := h1 l hl; omega
    · have := h2 x hx; rw [List.length_map]; omega
  · intro s hs
    unfold joinD at hs
    simp only [List.mem_append] at hs
    rcases hs with hs | hs
    · exact Ha.zs s hs
    · exact Hb.zs s hs
  · intro x hx
    unfold joinD at hx
    simp only [List.mem_append] at hx
    rcases hx with hx | hx
    · exact Ha.wr x hx
    · exact Hb.wr x hx
theorem enters65 : Enters 65 := enters_of Tryz.func65 (by kernel_rfl) rfl
theorem enters66 : Enters 66 := enters_of Tryz.func66 (by kernel_rfl) rfl
end Go.Proofs.YtmfnholhhakgaaaGreatDoor
