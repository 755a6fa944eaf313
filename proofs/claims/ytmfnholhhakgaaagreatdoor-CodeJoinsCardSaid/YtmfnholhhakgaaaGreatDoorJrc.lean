/- The reference of chapter 14: Join: its walk. -/
import Derived.Test.YtmfnholhhakgaaaGreatDoorJrb
namespace Go.Proofs.YtmfnholhhakgaaaGreatDoor
open Go Go.Proofs Go.RowKit Go.Sort
set_option maxRecDepth 100000
/-- What the reference's Join returns. -/
def RJoined (h : CodeH) (a b : CodeD) (w : World) (e : Ending) (w' : World) : Prop := ∃ z : CodeH, e = .returned (.agg #[.slice z.i.a z.i.n z.i.c, .slice z.p.a z.p.n z.p.c, .slice z.t.a z.t.n z.t.c, .slice z.s.a z.s.n z.s.c, .slice z.g.a z.g.n z.g.c, .slice z.r.a z.r.n z.r.c, .slice z.o.a z.o.n z.o.c, .int .i64 0]) ∧ CodeAt w' w'.heap.size z (joinD h a b) ∧ Below w.heap.size w w'
set_option maxHeartbeats 16000000 in
theorem rJoin_ok (h g : CodeH) (a b : CodeD) (w : World) (Ha : CodeAt w w.heap.size h a) (Hb : CodeAt w w.heap.size g b) (fa : fineB a (largeB h) = true) (fb : fineB b (largeB g) = true) (hl : largeD (joinD h a b) = false) :
    Calls Tryz.prog 20 #[.agg #[.slice h.i.a h.i.n h.i.c, .slice h.p.a h.p.n h.p.c, .slice h.t.a h.t.n h.t.c, .slice h.s.a h.s.n h.s.c, .slice h.g.a h.g.n h.g.c, .slice h.r.a h.r.n h.r.c, .slice h.o.a h.o.n h.o.c], .agg #[.slice g.i.a g.i.n g.i.c, .slice g.p.a g.p.n g.p.c, .slice g.t.a g.t.n g.t.c, .slice g.s.a g.s.n g.s.c, .slice g.g.a g.g.n g.g.c, .slice g.r.a g.r.n g.r.c, .slice g.o.a g.o.n g.o.c]] w (RJoined h a b w) := by
  have HA := Lib.hid Ha
  have HB := Lib.hid Hb
  have HFA := Lib.hid fa
  have HFB := Lib.hid fb
  have HLJ := Lib.hid hl
  obtain ⟨la0, WA⟩ := fine_well fa
  obtain ⟨lb0, WB⟩ := fine_well fb
  obtain ⟨na0, na1, pa1, ta1, sa1, ga1, ra1, oa1⟩ := large_sizes la0
  obtain ⟨nb0, nb1, pb1, tb1, sb1, gb1, rb1, ob1⟩ := large_sizes lb0
  have HLA := Lib.hid la0
  have HWB := Lib.hid WB
  have R0 := Lib.hid (RJ.start h g w)
  have y0 := R0.out.s.x.c0
  have q0 : ((((w.alloc (.cells #[.slice h.i.a h.i.n h.i.c, .slice h.p.a h.p.n h.p.c, .slice h.t.a h.t.n h.t.c, .slice h.s.a h.s.n h.s.c, .slice h.g.a h.g.n h.g.c, .slice h.r.a h.r.n h.r.c, .slice h.o.a h.o.n h.o.c] 30)).alloc (.cells #[.slice g.i.a g.i.n g.i.c, .slice g.p.a g.p.n g.p.c, .slice g.t.a g.t.n g.t.c, .slice g.s.a g.s.n g.s.c, .slice g.g.a g.g.n g.g.c, .slice g.r.a g.r.n g.r.c, .slice g.o.a g.o.n g.o.c] 30)).alloc (.cells #[.slice none 0 0, .slice none 0 0, .slice none 0 0, .slice none 0 0, .slice none 0 0, .slice none 0 0, .slice none 0 0, .int .i64 0] 40)).alloc (.cells #[.slice none 0 0, .slice none 0 0, .slice none 0 0, .slice none 0 0, .slice none 0 0, .slice none 0 0, .slice none 0 0] 30)).cell? ⟨w.heap.size + 1 + 1 + 1, 0, none⟩ = some (.slice none 0 0) := cell_of_row _ (w.heap.size + 3) 0 _ _ _ R0.out.j.o
  clear Ha Hb fa fb hl la0 lb0 WA WB
  go_enter Tryz.func20, Tryz.ntmps20
  go_wp2_with (at_builtin; refine wpList_catR elemInstr (by rfl) _ _ rfl (w.heap.size + 3) _ _ _ rfl R0.out.j.r0 _ _ _ _ _ rfl (HA.out.at R0.out.s.x.b).i (one_instr _) (by omega) (Nat.le_of_lt R0.out.lt) ?_; intro v' w1 ho hg; rw [Nat.zero_add, List.nil_append] at ho; obtain ⟨A0, k0, rfl⟩ := own_shape ho; have kc : w1.cell? ⟨w.heap.size + 1 + 1 + 1, 0, none⟩ = some (.slice none 0 0) := (R0.out.keep0 hg).1; have kf : w1.frozen? ⟨w.heap.size + 1 + 1 + 1, 0, none⟩ = false := (R0.out.keep0 hg).2; have R1 := Lib.hid (R0.out.push0 ho hg); clear ho hg)
  go_loopw [6] (fun i wr => ∃ (k : Nat) (A : Option Addr) (c : Nat), k ≤ g.i.n ∧ i = .int .i64 k ∧ RJ w.heap.size h g w wr (.slice A (h.i.n + k) c) (.slice none 0 0) (.slice none 0 0) (.slice none 0 0) (.slice none 0 0) (.slice none 0 0) (.slice none 0 0) (h.i.n + k) 0 0 0 0 0 0 (jI h a b k) [] [] [] [] [] []) (fun i _ => g.i.n - (intOf i).toNat)
  case atStart => exact ⟨0, _, _, by omega, rfl, by rw [jI_zero]; exact R1.out⟩
  case round =>
    obtain ⟨k, A, c, hk, rfl, hT⟩ := hrel
    have HT := Lib.hid hT
    clear hT R0 R1 y0 q0
    by_cases hlt : k < g.i.n
    · have hn : g.i.n ≤ 140737488351232 := HB.out.ni.2
      obtain ⟨ad, x, had, hx, hab, hc⟩ := Reads.elem (f := InstrD.cells) (fun _ => rfl) (HB.out.i.below HT.out.s.x.b) HB.out.ni.1 hlt
      have c0 := hc 0 _ (by omega) rfl
      have c1 := hc 1 _ (by omega) rfl
      have c2 := hc 2 _ (by omega) rfl
      have c3 := hc 3 _ (by omega) rfl
      rw [show (ad.add (k * 4)).add 0 = ad.add (k * 4) from rfl] at c0
      rw [show (ad.add (k * 4)).add 1 = { block := (ad.add (k * 4)).block, off := (ad.add (k * 4)).off + 1 } from rfl] at c1
      rw [show (ad.add (k * 4)).add 2 = { block := (ad.add (k * 4)).block, off := (ad.add (k * 4)).off + 2 } from rfl] at c2
      rw [show (ad.add (k * 4)).add 3 = { block := (ad.add (k * 4)).block, off := (ad.add (k * 4)).off + 3 } from rfl] at c3
      have HBX := Lib.hid (ins_bounds HB.out HFB.out hx)
      have HOX : Hid (opIs x.op = true) := Lib.hid ((ins_zero.1 (HWB.out.i x (List.mem_of_getElem? hx))).1)
      have HX := Lib.hid hx
      have HAB := Lib.hid hab
      have HC := Lib.hid (show _ ∧ _ ∧ _ ∧ _ from ⟨c0, c1, c2, c3⟩)
      have HAD := Lib.hid had
      rw [had]
      have TD := Lib.hid HT.out.drew
      have a0 := HT.out.s.x.c0; have a1 := HT.out.s.x.c1; have a2 := HT.out.s.x.c2; have a3 := HT.out.s.x.c3; have a4 := HT.out.s.x.c4; have a5 := HT.out.s.x.c5; have a6 := HT.out.s.x.c6
      have b0 := HT.out.s.d0
      rw [had] at b0
      have o0 : wr.cell? ⟨w.heap.size + 1 + 1 + 1, 0, none⟩ = some (.slice A (h.i.n + k) c) := cell_of_row _ (w.heap.size + 3) 0 _ _ _ HT.out.j.o
      have hk0 : (0 : Int) ≤ (k : Int) := by omega
      have hk1 : (k : Int) < (g.i.n : Int) := by omega
      have KT : Hid (∀ W, SInv w.heap.size h g w W → W.cell? ⟨w.heap.size + 1 + 1 + 1, 0, none⟩ = some (.slice A (h.i.n + k) c) → Below w.heap.size wr W → (W.cell? ⟨w.heap.size, 0, none⟩ = some (.slice h.i.a h.i.n h.i.c) ∧ W.cell? ⟨w.heap.size, 1, none⟩ = some (.slice h.p.a h.p.n h.p.c) ∧ W.cell? ⟨w.heap.size, 2, none⟩ = some (.slice h.t.a h.t.n h.t.c) ∧ W.cell? ⟨w.heap.size, 3, none⟩ = some (.slice h.s.a h.s.n h.s.c) ∧ W.cell? ⟨w.heap.size, 4, none⟩ = some (.slice h.g.a h.g.n h.g.c) ∧ W.cell? ⟨w.heap.size, 5, none⟩ = some (.slice h.r.a h.r.n h.r.c) ∧ W.cell? ⟨w.heap.size, 6, none⟩ = some (.slice h.o.a h.o.n h.o.c) ∧ W.cell? ⟨w.heap.size + 1, 0, none⟩ = some (.slice (some ad) g.i.n g.i.c) ∧ W.cell? (ad.add (k * 4)) = some (.int .i64 x.op) ∧ W.cell? ⟨(ad.add (k * 4)).block, (ad.add (k * 4)).off + 1, none⟩ = some (.int .i64 x.a) ∧ W.cell? ⟨(ad.add (k * 4)).block, (ad.add (k * 4)).off + 2, none⟩ = some (.int .i64 x.b) ∧ W.cell? ⟨(ad.add (k * 4)).block, (ad.add (k * 4)).off + 3, none⟩ = some (.int .i64 x.c) ∧ W.cell? ⟨w.heap.size + 1 + 1 + 1, 0, none⟩ = some (.slice A (h.i.n + k) c))) := Lib.hid (fun W hS hO hW => ⟨hS.x.c0, hS.x.c1, hS.x.c2, hS.x.c3, hS.x.c4, hS.x.c5, hS.x.c6, (by rw [← HAD.out]; exact hS.d0), (hW.cell (p := ad.add (k * 4)) (by rw [block_of_add]; exact hab)).trans c0, (hW.cell (p := ⟨(ad.add (k * 4)).block, (ad.add (k * 4)).off + 1, none⟩) (by show (ad.add (k * 4)).block < _; rw [block_of_add]; exact hab)).trans c1, (hW.cell (p := ⟨(ad.add (k * 4)).block, (ad.add (k * 4)).off + 2, none⟩) (by show (ad.add (k * 4)).block < _; rw [block_of_add]; exact hab)).trans c2, (hW.cell (p := ⟨(ad.add (k * 4)).block, (ad.add (k * 4)).off + 3, none⟩) (by show (ad.add (k * 4)).block < _; rw [block_of_add]; exact hab)).trans c3, hO⟩)
      have KS : Hid (∀ W, RJ w.heap.size h g w W (.slice A (h.i.n + k) c) (.slice none 0 0) (.slice none 0 0) (.slice none 0 0) (.slice none 0 0) (.slice none 0 0) (.slice none 0 0) (h.i.n + k) 0 0 0 0 0 0 (jI h a b k) [] [] [] [] [] [] → Below w.heap.size wr W → (W.cell? ⟨w.heap.size, 0, none⟩ = some (.slice h.i.a h.i.n h.i.c) ∧ W.cell? ⟨w.heap.size, 1, none⟩ = some (.slice h.p.a h.p.n h.p.c) ∧ W.cell? ⟨w.heap.size, 2, none⟩ = some (.slice h.t.a h.t.n h.t.c) ∧ W.cell? ⟨w.heap.size, 3, none⟩ = some (.slice h.s.a h.s.n h.s.c) ∧ W.cell? ⟨w.heap.size, 4, none⟩ = some (.slice h.g.a h.g.n h.g.c) ∧ W.cell? ⟨w.heap.size, 5, none⟩ = some (.slice h.r.a h.r.n h.r.c) ∧ W.cell? ⟨w.heap.size, 6, none⟩ = some (.slice h.o.a h.o.n h.o.c) ∧ W.cell? ⟨w.heap.size + 1, 0, none⟩ = some (.slice (some ad) g.i.n g.i.c) ∧ W.cell? (ad.add (k * 4)) = some (.int .i64 x.op) ∧ W.cell? ⟨(ad.add (k * 4)).block, (ad.add (k * 4)).off + 1, none⟩ = some (.int .i64 x.a) ∧ W.cell? ⟨(ad.add (k * 4)).block, (ad.add (k * 4)).off + 2, none⟩ = some (.int .i64 x.b) ∧ W.cell? ⟨(ad.add (k * 4)).block, (ad.add (k * 4)).off + 3, none⟩ = some (.int .i64 x.c) ∧ W.cell? ⟨w.heap.size + 1 + 1 + 1, 0, none⟩ = some (.slice A (h.i.n + k) c))) := Lib.hid (fun W hR hW => KT.out W hR.s (cell_of_row _ (w.heap.size + 3) 0 _ _ _ hR.j.o) hW)
      have hz := HT.out.lt
      have Z0 : w.heap.size ≤ wr.heap.size := by omega
      clear hx had hab hc
      go_wp2
      refine wp_region_X (by kernel_rfl) (fun w' => w'.cell? ⟨w.heap.size, 0, none⟩ = some (.slice h.i.a h.i.n h.i.c) ∧ w'.cell? ⟨w.heap.size, 1, none⟩ = some (.slice h.p.a h.p.n h.p.c) ∧ w'.cell? ⟨w.heap.size, 2, none⟩ = some (.slice h.t.a h.t.n h.t.c) ∧ w'.cell? ⟨w.heap.size, 3, none⟩ = some (.slice h.s.a h.s.n h.s.c) ∧ w'.cell? ⟨w.heap.size, 4, none⟩ = some (.slice h.g.a h.g.n h.g.c) ∧ w'.cell? ⟨w.heap.size, 5, none⟩ = some (.slice h.r.a h.r.n h.r.c) ∧ w'.cell? ⟨w.heap.size, 6, none⟩ = some (.slice h.o.a h.o.n h.o.c) ∧ w'.cell? ⟨w.heap.size + 1, 0, none⟩ = some (.slice (some ad) g.i.n g.i.c) ∧ w'.cell? (ad.add (k * 4)) = some (.int .i64 x.op) ∧ w'.cell? ⟨(ad.add (k * 4)).block, (ad.add (k * 4)).off + 1, none⟩ = some (.int .i64 x.a) ∧ w'.cell? ⟨(ad.add (k * 4)).block, (ad.add (k * 4)).off + 2, none⟩ = some (.int .i64 x.b) ∧ w'.cell? ⟨(ad.add (k * 4)).block, (ad.add (k * 4)).off + 3, none⟩ = some (.int .i64 x.c) ∧ w'.cell? ⟨w.heap.size + 1 + 1 + 1, 0, none⟩ = some (.slice A (h.i.n + k) c)) 12 ?_
      have hHeld := KS.out _ TD.out (Below.refl _ _).drew
      refine wpAnyX_take (i := 0) (oi := { dst := some 28, op := Go.Op.fieldAddr 30 (Go.Operand.tmp 5) 0, type := 0, pos := "ref.go:371", after := #[], guard := none }) (v := ?_) rfl (by kernel_rfl) (fun _ _ _ h => h) (by rfl) ?_ (by assumption) ?_
      rotate_left
      focus (intro w' hSw; (try dsimp only at hSw); go_simp; (try with_reducible rfl))
      try simp only [Act.put, List.setIfInBounds_toArray, List.set_cons_zero, List.set_cons_succ]
      refine wpAnyX_take (i := 1) (oi := { dst := some 29, op := Go.Op.load 22 (Go.Operand.tmp 28), type := 22, pos := "ref.go:371", after := #[{ on := 0, ground := Go.Ground.data }], guard := none }) (v := ?_) rfl (by kernel_rfl) (fun _ _ _ h => h) (by rfl) ?_ (by assumption) ?_
      rotate_left
      focus (intro w' hSw; (try dsimp only at hSw); go_simp; (try with_reducible rfl))
      try simp only [Act.put, List.setIfInBounds_toArray, List.set_cons_zero, List.set_cons_succ]
      refine wpAnyX_take (i := 2) (oi := { dst := some 30, op := Go.Op.load 30 (Go.Operand.tmp 2), type := 30, pos := "ref.go:371", after := #[], guard := none }) (v := ?_) rfl (by kernel_rfl) (fun _ _ _ h => h) (by rfl) ?_ (by assumption) ?_
      rotate_left
      focus (intro w' hSw; (try dsimp only at hSw); go_simp; (try with_reducible rfl))
      try simp only [Act.put, List.setIfInBounds_toArray, List.set_cons_zero, List.set_cons_succ]
      refine wpAnyX_take (i := 3) (oi := { dst := some 31, op := Go.Op.fieldAddr 30 (Go.Operand.tmp 3) 0, type := 0, pos := "ref.go:371", after := #[], guard := none }) (v := ?_) rfl (by kernel_rfl) (fun _ _ _ h => h) (by rfl) ?_ (by assumption) ?_
      rotate_left
      focus (intro w' hSw; (try dsimp only at hSw); go_simp; (try with_reducible rfl))
      try simp only [Act.put, List.setIfInBounds_toArray, List.set_cons_zero, List.set_cons_succ]
      refine wpAnyX_take (i := 4) (oi := { dst := some 32, op := Go.Op.load 22 (Go.Operand.tmp 31), type := 22, pos := "ref.go:371", after := #[{ on := 3, ground := Go.Ground.data }], guard := none }) (v := ?_) rfl (by kernel_rfl) (fun _ _ _ h => h) (by rfl) ?_ (by assumption) ?_
      rotate_left
      focus (intro w' hSw; (try dsimp only at hSw); go_simp; (try with_reducible rfl))
      try simp only [Act.put, List.setIfInBounds_toArray, List.set_cons_zero, List.set_cons_succ]
      refine wpAnyX_take (i := 5) (oi := { dst := some 33, op := Go.Op.move (Go.Operand.tmp 6), type := 3, pos := "ref.go:371", after := #[], guard := none }) (v := ?_) rfl (by kernel_rfl) (fun _ _ _ h => h) (by rfl) ?_ (by assumption) ?_
      rotate_left
      focus (intro w' hSw; (try dsimp only at hSw); go_simp; (try with_reducible rfl))
      try simp only [Act.put, List.setIfInBounds_toArray, List.set_cons_zero, List.set_cons_succ]
      refine wpAnyX_take (i := 6) (oi := { dst := some 34, op := Go.Op.indexAddr 22 (Go.Operand.tmp 32) (Go.Operand.tmp 33), type := 0, pos := "ref.go:371", after := #[{ on := 4, ground := Go.Ground.data }, { on := 5, ground := Go.Ground.data }], guard := none }) (v := ?_) rfl (by kernel_rfl) (fun _ _ _ h => h) (by rfl) ?_ (by assumption) ?_
      rotate_left
      focus (intro w' hSw; (try dsimp only at hSw); go_simp; (try with_reducible rfl))
      try simp only [Act.put, List.setIfInBounds_toArray, List.set_cons_zero, List.set_cons_succ]
      refine wpAnyX_take (i := 7) (oi := { dst := some 35, op := Go.Op.load 52 (Go.Operand.tmp 34), type := 52, pos := "ref.go:371", after := #[{ on := 6, ground := Go.Ground.data }], guard := none }) (v := ?_) rfl (by kernel_rfl) (fun _ _ _ h => h) (by rfl) ?_ (by assumption) ?_
      rotate_left
      focus (intro w' hSw; (try dsimp only at hSw); go_simp; (try with_reducible rfl))
      try simp only [Act.put, List.setIfInBounds_toArray, List.set_cons_zero, List.set_cons_succ]
      refine wpAnyX_one (k := 8) (o := { dst := some 36, op := Go.Op.call { callee := Go.Callee.value (Go.Operand.func 65), args := #[Go.Operand.tmp 30, Go.Operand.tmp 35], argTypes := #[30, 52] }, type := 52, pos := "ref.go:371", after := #[{ on := 2, ground := Go.Ground.data }, { on := 7, ground := Go.Ground.data }], guard := none }) rfl (by kernel_rfl) (by rfl) ?_
      refine op_fn2 rfl enters65 (by rfl) (by rfl) (rmoved_any h x _ HOX.out HLA.out HBX.out) ?_
      intro w5 hb
      have T5 := Lib.hid (TD.out.below hb)
      have T5a := Lib.hid (T5.out.alloc (.cells #[.int .i64 (shI h x).op, .int .i64 (shI h x).a, .int .i64 (shI h x).b, .int .i64 (shI h x).c] 52))
      have hb5 := ((Below.refl w.heap.size wr).drew).trans (hb.mono Z0)
      refine ⟨fun _ => KS.out _ T5.out hb5, ?_⟩
      have Z5 : w.heap.size ≤ w5.heap.size := by have := T5.out.lt; omega
      try simp only [Act.put, List.setIfInBounds_toArray, List.set_cons_zero, List.set_cons_succ]
      refine wpAnyX_one (k := 9) (o := { dst := some 37, op := Go.Op.buildSlice 22 1 #[(0, Go.Operand.tmp 36)], type := 22, pos := "ref.go:371", after := #[{ on := 8, ground := Go.Ground.data }], guard := none }) rfl (by kernel_rfl) (by rfl) ?_
      refine op_bs22 rfl (by rfl) ?_
      refine ⟨fun _ => KS.out _ T5a.out (hb5.alloc Z5 _), ?_⟩
      try simp only [Act.put, List.setIfInBounds_toArray, List.set_cons_zero, List.set_cons_succ]
      refine wpAnyX_one (k := 10) (o := { dst := some 38, op := Go.Op.call { callee := Go.Callee.builtin Go.Builtin.append, args := #[Go.Operand.tmp 29, Go.Operand.tmp 37], argTypes := #[22, 22] }, type := 22, pos := "ref.go:371", after := #[{ on := 1, ground := Go.Ground.data }, { on := 9, ground := Go.Ground.data }, { on := 8, ground := Go.Ground.chain }], guard := none }) rfl (by kernel_rfl) (by rfl) ?_
      refine wp_catR elemInstr _ _ rfl (w.heap.size + 3) _ _ _ (by rfl) T5a.out.j.r0 _ _ _ _ _ (by rfl) (reads_new w5 #[.int .i64 (shI h x).op, .int .i64 (shI h x).a, .int .i64 (shI h x).b, .int .i64 (shI h x).c] 52 4 1 rfl) (one4 _ _ _ _) (by omega) (Nat.le_of_lt T5a.out.lt) ?_
      intro v' w6 ho hg
      obtain ⟨A', c', rfl⟩ := own_shape ho
      have kc : w6.cell? ⟨w.heap.size + 1 + 1 + 1, 0, none⟩ = some (.slice A (h.i.n + k) c) := (T5a.out.keep0 hg).1
      have kf : w6.frozen? ⟨w.heap.size + 1 + 1 + 1, 0, none⟩ = false := (T5a.out.keep0 hg).2
      have T6 := Lib.hid (T5a.out.push0 (x' := jI h a b (k + 1)) (by rw [jI_succ HX.out]; exact ho) hg)
      have kS := KT.out _ (T5a.out.sinv0 hg) kc ((hb5.alloc Z5 _).trans ((T5a.out.grow0 hg).mono (by omega)))
      refine ⟨fun _ => kS, ?_⟩
      try simp only [Act.put, List.setIfInBounds_toArray, List.set_cons_zero, List.set_cons_succ]
      refine wpAnyX_one (k := 11) (o := { dst := some 39, op := Go.Op.fieldAddr 30 (Go.Operand.tmp 5) 0, type := 0, pos := "ref.go:371", after := #[{ on := 0, ground := Go.Ground.phase }, { on := 1, ground := Go.Ground.phase }, { on := 2, ground := Go.Ground.phase }, { on := 3, ground := Go.Ground.phase }, { on := 4, ground := Go.Ground.phase }, { on := 5, ground := Go.Ground.phase }, { on := 6, ground := Go.Ground.phase }, { on := 7, ground := Go.Ground.phase }, { on := 8, ground := Go.Ground.phase }, { on := 9, ground := Go.Ground.phase }, { on := 10, ground := Go.Ground.phase }], guard := none }) rfl (by kernel_rfl) (by rfl) ?_
      refine op_fieldAddr rfl (by rfl) (by decide) ?_
      refine ⟨fun _ => kS, ?_⟩
      try simp only [Act.put, List.setIfInBounds_toArray, List.set_cons_zero, List.set_cons_succ]
      refine wpAnyX_one (k := 12) (o := { dst := none, op := Go.Op.store 22 (Go.Operand.tmp 39) (Go.Operand.tmp 38), type := 0, pos := "ref.go:371", after := #[{ on := 11, ground := Go.Ground.data }, { on := 10, ground := Go.Ground.data }, { on := 10, ground := Go.Ground.chain }, { on := 0, ground := Go.Ground.phase }, { on := 1, ground := Go.Ground.phase }, { on := 2, ground := Go.Ground.phase }, { on := 3, ground := Go.Ground.phase }, { on := 4, ground := Go.Ground.phase }, { on := 5, ground := Go.Ground.phase }, { on := 6, ground := Go.Ground.phase }, { on := 7, ground := Go.Ground.phase }, { on := 8, ground := Go.Ground.phase }, { on := 9, ground := Go.Ground.phase }, { on := 10, ground := Go.Ground.phase }], guard := none }) rfl (by kernel_rfl) (by rfl) ?_
      refine op_put22 rfl (by rfl) (by rfl) ⟨_, _, _, rfl⟩ kc kf ?_
      refine ⟨fun h => absurd rfl h, ?_⟩
      try simp only [Act.put]
      refine wpAnyX_done (by kernel_rfl) ?_ _
      go_wp2
      go_roundw
      case rel => exact ⟨k + 1, _, _, by omega, by go_num, T6.out⟩
      case measure => simp [intOf]; omega
    · obtain rfl : k = g.i.n := by omega
      have e0 := HT.out.s.d0
      have e1 := HT.out.s.x.c1
      have e2 : wr.cell? ⟨w.heap.size + 1 + 1 + 1, 1, none⟩ = some (.slice none 0 0) := cell_of_row _ (w.heap.size + 3) 1 _ _ _ HT.out.j.o
      obtain ⟨A0, hA0⟩ : ∃ x, x = A := ⟨_, rfl⟩
      obtain ⟨k0, hk0⟩ : ∃ x, x = c := ⟨_, rfl⟩
      subst hA0
      subst hk0
      go_wp2_with (at_builtin; refine wpList_catR elemProc (by rfl) _ _ rfl (w.heap.size + 3) _ _ _ rfl HT.out.j.r1 _ _ _ _ _ rfl (HA.out.at HT.out.s.x.b).p (one_proc _) (by omega) (Nat.le_of_lt HT.out.lt) ?_; intro v' w1 ho hg; rw [Nat.zero_add, List.nil_append] at ho; obtain ⟨A1, k1, rfl⟩ := own_shape ho; have kc : w1.cell? ⟨w.heap.size + 1 + 1 + 1, 1, none⟩ = some (.slice none 0 0) := (HT.out.keep1 hg).1; have kf : w1.frozen? ⟨w.heap.size + 1 + 1 + 1, 1, none⟩ = false := (HT.out.keep1 hg).2; have R1 := Lib.hid (HT.out.push1 ho hg); clear ho hg)
      clear HT e0 e1 e2 kc kf
      go_loopw [7] (fun i wr => ∃ (k : Nat) (A : Option Addr) (c : Nat), k ≤ g.p.n ∧ i = .int .i64 k ∧ RJ w.heap.size h g w wr (.slice A0 (h.i.n + g.i.n) k0) (.slice A (h.p.n + k) c) (.slice none 0 0) (.slice none 0 0) (.slice none 0 0) (.slice none 0 0) (.slice none 0 0) (h.i.n + g.i.n) (h.p.n + k) 0 0 0 0 0 (jI h a b g.i.n) (jP h a b k) [] [] [] [] []) (fun i _ => g.p.n - (intOf i).toNat)
      case atStart => exact ⟨0, _, _, by omega, rfl, by rw [jP_zero]; exact R1.out⟩
      case round =>
        obtain ⟨k, A, c, hk, rfl, hT⟩ := hrel
        have HT := Lib.hid hT
        clear hT R1
        by_cases hlt : k < g.p.n
        · have hn : g.p.n ≤ 140737488351232 := HB.out.np.2
          obtain ⟨ad, x, had, hx, hab, hc⟩ := Reads.elem (f := ProcD.cells) (fun _ => rfl) (HB.out.p.below HT.out.s.x.b) HB.out.np.1 hlt
          have c0 := hc 0 _ (by omega) rfl
          have c1 := hc 1 _ (by omega) rfl
          have c2 := hc 2 _ (by omega) rfl
          have c3 := hc 3 _ (by omega) rfl
          have c4 := hc 4 _ (by omega) rfl
          rw [show (ad.add (k * 5)).add 0 = ad.add (k * 5) from rfl] at c0
          rw [show (ad.add (k * 5)).add 1 = { block := (ad.add (k * 5)).block, off := (ad.add (k * 5)).off + 1 } from rfl] at c1
          rw [show (ad.add (k * 5)).add 2 = { block := (ad.add (k * 5)).block, off := (ad.add (k * 5)).off + 2 } from rfl] at c2
          rw [show (ad.add (k * 5)).add 3 = { block := (ad.add (k * 5)).block, off := (ad.add (k * 5)).off + 3 } from rfl] at c3
          rw [show (ad.add (k * 5)).add 4 = { block := (ad.add (k * 5)).block, off := (ad.add (k * 5)).off + 4 } from rfl] at c4
          have HPB := Lib.hid (proc_bound HB.out HFB.out hx)
          have HX := Lib.hid hx
          have b1 := HT.out.s.d1
          rw [had] at b1 ⊢
          have hk0 : (0 : Int) ≤ (k : Int) := by omega
          have hk1 : (k : Int) < (g.p.n : Int) := by omega
          have T1 := Lib.hid (HT.out.alloc (.cells #[.int .i64 x.entry, .int .i64 x.params, .int .i64 x.type, .int .i64 x.slots, .bool x.std] 78))
          have a0 := T1.out.s.x.c0; have a1 := T1.out.s.x.c1; have a2 := T1.out.s.x.c2; have a3 := T1.out.s.x.c3; have a4 := T1.out.s.x.c4; have a5 := T1.out.s.x.c5; have a6 := T1.out.s.x.c6
          have PR : Hid ((wr.alloc (.cells #[.int .i64 x.entry, .int .i64 x.params, .int .i64 x.type, .int .i64 x.slots, .bool x.std] 78)).heap[wr.heap.size]? = some (.cells #[.int .i64 x.entry, .int .i64 x.params, .int .i64 x.type, .int .i64 x.slots, .bool x.std] 78 (0, 0))) := Lib.hid (heap_alloc_new wr _)
          have hz := HT.out.lt
          clear hc hx had hab
          go_wp2_with (first
            | (go_at_call 66; refine (rshift_any h x.entry _ HPB.out (by omega)).mono ?_; rintro e w5 ⟨rfl, hb⟩; have T5 := Lib.hid (T1.out.below hb); have P5 := Lib.hid ((hb.block _ (Array.getElem?_eq_some_iff.1 PR.out).1).trans PR.out); have p0 : w5.cell? ⟨wr.heap.size, 0, none⟩ = some (.int .i64 x.entry) := cell_of_row _ _ 0 _ _ _ P5.out; have pf : w5.frozen? ⟨wr.heap.size, 0, none⟩ = false := (by have := P5.out; simp [World.frozen?, this]); have Bx := ((Below.refl wr.heap.size wr).alloc (Nat.le_refl _) (.cells #[.int .i64 x.entry, .int .i64 x.params, .int .i64 x.type, .int .i64 x.slots, .bool x.std] 78)).trans (hb.mono (by simp)); have T6 := Lib.hid (HT.out.below (Bx.setCell (p := ⟨wr.heap.size, 0, none⟩) (Nat.le_refl _) (.int .i64 (mv h.i.n x.entry)))); have P6 := heap_setCell_at (j := 0) P5.out (.int .i64 (mv h.i.n x.entry)); have o6 : (w5.setCell ⟨wr.heap.size, 0, none⟩ (.int .i64 (mv h.i.n x.entry))).cell? ⟨w.heap.size + 1 + 1 + 1, 1, none⟩ = some (.slice A (h.p.n + k) c) := cell_of_row _ (w.heap.size + 3) 1 _ _ _ T6.out.j.o; have s0 : (w5.setCell ⟨wr.heap.size, 0, none⟩ (.int .i64 (mv h.i.n x.entry))).cell? ⟨wr.heap.size, 0, none⟩ = some (.int .i64 (mv h.i.n x.entry)) := cell_of_row _ _ 0 _ _ _ P6; have s1 : (w5.setCell ⟨wr.heap.size, 0, none⟩ (.int .i64 (mv h.i.n x.entry))).cell? ⟨wr.heap.size, 1, none⟩ = some (.int .i64 x.params) := cell_of_row _ _ 1 _ _ _ P6; have s2 : (w5.setCell ⟨wr.heap.size, 0, none⟩ (.int .i64 (mv h.i.n x.entry))).cell? ⟨wr.heap.size, 2, none⟩ = some (.int .i64 x.type) := cell_of_row _ _ 2 _ _ _ P6; have s3 : (w5.setCell ⟨wr.heap.size, 0, none⟩ (.int .i64 (mv h.i.n x.entry))).cell? ⟨wr.heap.size, 3, none⟩ = some (.int .i64 x.slots) := cell_of_row _ _ 3 _ _ _ P6; have s4 : (w5.setCell ⟨wr.heap.size, 0, none⟩ (.int .i64 (mv h.i.n x.entry))).cell? ⟨wr.heap.size, 4, none⟩ = some (.bool x.std) := cell_of_row _ _ 4 _ _ _ P6; clear hb P6 Bx)
            | (at_builtin; refine wpList_pushG elemProc rfl _ _ rfl (w.heap.size + 3) _ _ _ rfl T6.out.j.r1 #[.int .i64 (mv h.i.n x.entry), .int .i64 x.params, .int .i64 x.type, .int .i64 x.slots, .bool x.std] _ rfl (by simp) rfl (one5 _ _ _ _ _) (by omega) (Nat.le_of_lt T6.out.lt) ?_; intro v' w7 ho hg; obtain ⟨A', c', rfl⟩ := own_shape ho; have kc : w7.cell? ⟨w.heap.size + 1 + 1 + 1, 1, none⟩ = some (.slice A (h.p.n + k) c) := (T6.out.keep1 hg).1; have kf : w7.frozen? ⟨w.heap.size + 1 + 1 + 1, 1, none⟩ = false := (T6.out.keep1 hg).2; have T7 := Lib.hid (T6.out.push1 (x' := jP h a b (k + 1)) (by rw [jP_succ HX.out]; exact ho) hg); clear ho hg))
          go_roundw
          case rel => exact ⟨k + 1, _, _, by omega, by go_num, T7.out⟩
          case measure => simp [intOf]; omega
        · obtain rfl : k = g.p.n := by omega
          have e0 := HT.out.s.d1
          have e1 := HT.out.s.x.c2
          have e2 : wr.cell? ⟨w.heap.size + 1 + 1 + 1, 2, none⟩ = some (.slice none 0 0) := cell_of_row _ (w.heap.size + 3) 2 _ _ _ HT.out.j.o
          obtain ⟨A1, hA1⟩ : ∃ x, x = A := ⟨_, rfl⟩
          obtain ⟨k1, hk1⟩ : ∃ x, x = c := ⟨_, rfl⟩
          subst hA1
          subst hk1
          go_wp2_with (at_builtin; refine wpList_catR elemThunk (by rfl) _ _ rfl (w.heap.size + 3) _ _ _ rfl HT.out.j.r2 _ _ _ _ _ rfl (HA.out.at HT.out.s.x.b).t (one_thunk _) (by omega) (Nat.le_of_lt HT.out.lt) ?_; intro v' w1 ho hg; rw [Nat.zero_add, List.nil_append] at ho; obtain ⟨A2, k2, rfl⟩ := own_shape ho; have kc : w1.cell? ⟨w.heap.size + 1 + 1 + 1, 2, none⟩ = some (.slice none 0 0) := (HT.out.keep2 hg).1; have kf : w1.frozen? ⟨w.heap.size + 1 + 1 + 1, 2, none⟩ = false := (HT.out.keep2 hg).2; have R2 := Lib.hid (HT.out.push2 ho hg); clear ho hg)
          clear HT e0 e1 e2 kc kf
          go_loopw [9] (fun i wr => ∃ (k : Nat) (A : Option Addr) (c : Nat), k ≤ g.t.n ∧ i = .int .i64 k ∧ RJ w.heap.size h g w wr (.slice A0 (h.i.n + g.i.n) k0) (.slice A1 (h.p.n + g.p.n) k1) (.slice A (h.t.n + k) c) (.slice none 0 0) (.slice none 0 0) (.slice none 0 0) (.slice none 0 0) (h.i.n + g.i.n) (h.p.n + g.p.n) (h.t.n + k) 0 0 0 0 (jI h a b g.i.n) (jP h a b g.p.n) (jT h a b k) [] [] [] []) (fun i _ => g.t.n - (intOf i).toNat)
          case atStart => exact ⟨0, _, _, by omega, rfl, by rw [jT_zero]; exact R2.out⟩
          case round =>
            obtain ⟨k, A, c, hk, rfl, hT⟩ := hrel
            have HT := Lib.hid hT
            clear hT R2
            by_cases hlt : k < g.t.n
            · have hn : g.t.n ≤ 140737488351232 := HB.out.nt.2
              obtain ⟨ad, x, had, hx, hab, hc⟩ := Reads.elem (f := ThunkD.cells) (fun _ => rfl) (HB.out.t.below HT.out.s.x.b) HB.out.nt.1 hlt
              have c0 := hc 0 _ (by omega) rfl
              have c1 := hc 1 _ (by omega) rfl
              have c2 := hc 2 _ (by omega) rfl
              rw [show (ad.add (k * 3)).add 0 = ad.add (k * 3) from rfl] at c0
              rw [show (ad.add (k * 3)).add 1 = { block := (ad.add (k * 3)).block, off := (ad.add (k * 3)).off + 1 } from rfl] at c1
              rw [show (ad.add (k * 3)).add 2 = { block := (ad.add (k * 3)).block, off := (ad.add (k * 3)).off + 2 } from rfl] at c2
              have HPB := Lib.hid (thunk_bound HB.out HFB.out hx)
              have HX := Lib.hid hx
              have b2 := HT.out.s.d2
              rw [had] at b2 ⊢
              have hk0 : (0 : Int) ≤ (k : Int) := by omega
              have hk1 : (k : Int) < (g.t.n : Int) := by omega
              have hz := HT.out.lt
              have T4 := Lib.hid (HT.out.alloc (.cells #[.int .i64 x.value, .int .i64 x.address, .int .i64 x.desig] 94)).drew
              have P4 : Hid ((wr.alloc (.cells #[.int .i64 x.value, .int .i64 x.address, .int .i64 x.desig] 94)).drew.heap[wr.heap.size]? = some (.cells #[.int .i64 x.value, .int .i64 x.address, .int .i64 x.desig] 94 (0, 0))) := Lib.hid (heap_alloc_new wr _)
              have KT : Hid (∀ W, SInv w.heap.size h g w W → W.cell? ⟨w.heap.size + 1 + 1 + 1, 2, none⟩ = some (.slice A (h.t.n + k) c) → W.heap[wr.heap.size]? = some (.cells #[.int .i64 x.value, .int .i64 x.address, .int .i64 x.desig] 94 (0, 0)) → (W.cell? ⟨w.heap.size, 0, none⟩ = some (.slice h.i.a h.i.n h.i.c) ∧ W.cell? ⟨w.heap.size, 1, none⟩ = some (.slice h.p.a h.p.n h.p.c) ∧ W.cell? ⟨w.heap.size, 2, none⟩ = some (.slice h.t.a h.t.n h.t.c) ∧ W.cell? ⟨w.heap.size, 3, none⟩ = some (.slice h.s.a h.s.n h.s.c) ∧ W.cell? ⟨w.heap.size, 4, none⟩ = some (.slice h.g.a h.g.n h.g.c) ∧ W.cell? ⟨w.heap.size, 5, none⟩ = some (.slice h.r.a h.r.n h.r.c) ∧ W.cell? ⟨w.heap.size, 6, none⟩ = some (.slice h.o.a h.o.n h.o.c) ∧ W.cell? ⟨wr.heap.size, 0, none⟩ = some (.int .i64 x.value) ∧ W.cell? ⟨wr.heap.size, 1, none⟩ = some (.int .i64 x.address) ∧ W.cell? ⟨wr.heap.size, 2, none⟩ = some (.int .i64 x.desig) ∧ W.cell? ⟨w.heap.size + 1 + 1 + 1, 2, none⟩ = some (.slice A (h.t.n + k) c))) := Lib.hid (fun W hS hO hP => ⟨hS.x.c0, hS.x.c1, hS.x.c2, hS.x.c3, hS.x.c4, hS.x.c5, hS.x.c6, cell_of_row _ _ 0 _ _ _ hP, cell_of_row _ _ 1 _ _ _ hP, cell_of_row _ _ 2 _ _ _ hP, hO⟩)
              clear hc hx had hab
              go_wp2
              refine wp_region_X (by kernel_rfl) (fun w' => w'.cell? ⟨w.heap.size, 0, none⟩ = some (.slice h.i.a h.i.n h.i.c) ∧ w'.cell? ⟨w.heap.size, 1, none⟩ = some (.slice h.p.a h.p.n h.p.c) ∧ w'.cell? ⟨w.heap.size, 2, none⟩ = some (.slice h.t.a h.t.n h.t.c) ∧ w'.cell? ⟨w.heap.size, 3, none⟩ = some (.slice h.s.a h.s.n h.s.c) ∧ w'.cell? ⟨w.heap.size, 4, none⟩ = some (.slice h.g.a h.g.n h.g.c) ∧ w'.cell? ⟨w.heap.size, 5, none⟩ = some (.slice h.r.a h.r.n h.r.c) ∧ w'.cell? ⟨w.heap.size, 6, none⟩ = some (.slice h.o.a h.o.n h.o.c) ∧ w'.cell? ⟨wr.heap.size, 0, none⟩ = some (.int .i64 x.value) ∧ w'.cell? ⟨wr.heap.size, 1, none⟩ = some (.int .i64 x.address) ∧ w'.cell? ⟨wr.heap.size, 2, none⟩ = some (.int .i64 x.desig) ∧ w'.cell? ⟨w.heap.size + 1 + 1 + 1, 2, none⟩ = some (.slice A (h.t.n + k) c)) 18 ?_
              have hHeld := KT.out _ T4.out.s (cell_of_row _ (w.heap.size + 3) 2 _ _ _ T4.out.j.o) P4.out
              refine wpAnyX_take (i := 0) (oi := { dst := some 87, op := Go.Op.fieldAddr 30 (Go.Operand.tmp 5) 2, type := 0, pos := "ref.go:382", after := #[], guard := none }) (v := ?_) rfl (by kernel_rfl) (fun _ _ _ h => h) (by rfl) ?_ (by assumption) ?_
              rotate_left
              focus (intro w' hSw; (try dsimp only at hSw); go_simp; (try with_reducible rfl))
              try simp only [Act.put, List.setIfInBounds_toArray, List.set_cons_zero, List.set_cons_succ]
              refine wpAnyX_take (i := 1) (oi := { dst := some 88, op := Go.Op.load 24 (Go.Operand.tmp 87), type := 24, pos := "ref.go:382", after := #[{ on := 0, ground := Go.Ground.data }], guard := none }) (v := ?_) rfl (by kernel_rfl) (fun _ _ _ h => h) (by rfl) ?_ (by assumption) ?_
              rotate_left
              focus (intro w' hSw; (try dsimp only at hSw); go_simp; (try with_reducible rfl))
              try simp only [Act.put, List.setIfInBounds_toArray, List.set_cons_zero, List.set_cons_succ]
              refine wpAnyX_take (i := 2) (oi := { dst := some 89, op := Go.Op.load 30 (Go.Operand.tmp 2), type := 30, pos := "ref.go:382", after := #[], guard := none }) (v := ?_) rfl (by kernel_rfl) (fun _ _ _ h => h) (by rfl) ?_ (by assumption) ?_
              rotate_left
              focus (intro w' hSw; (try dsimp only at hSw); go_simp; (try with_reducible rfl))
              try simp only [Act.put, List.setIfInBounds_toArray, List.set_cons_zero, List.set_cons_succ]
              refine wpAnyX_take (i := 3) (oi := { dst := some 90, op := Go.Op.fieldAddr 94 (Go.Operand.tmp 10) 0, type := 0, pos := "ref.go:382", after := #[], guard := none }) (v := ?_) rfl (by kernel_rfl) (fun _ _ _ h => h) (by rfl) ?_ (by assumption) ?_
              rotate_left
              focus (intro w' hSw; (try dsimp only at hSw); go_simp; (try with_reducible rfl))
              try simp only [Act.put, List.setIfInBounds_toArray, List.set_cons_zero, List.set_cons_succ]
              refine wpAnyX_take (i := 4) (oi := { dst := some 91, op := Go.Op.load 3 (Go.Operand.tmp 90), type := 3, pos := "ref.go:382", after := #[{ on := 3, ground := Go.Ground.data }], guard := none }) (v := ?_) rfl (by kernel_rfl) (fun _ _ _ h => h) (by rfl) ?_ (by assumption) ?_
              rotate_left
              focus (intro w' hSw; (try dsimp only at hSw); go_simp; (try with_reducible rfl))
              try simp only [Act.put, List.setIfInBounds_toArray, List.set_cons_zero, List.set_cons_succ]
              refine wpAnyX_take (i := 6) (oi := { dst := some 93, op := Go.Op.load 30 (Go.Operand.tmp 2), type := 30, pos := "ref.go:382", after := #[], guard := none }) (v := ?_) rfl (by kernel_rfl) (fun _ _ _ h => h) (by rfl) ?_ (by assumption) ?_
              rotate_left
              focus (intro w' hSw; (try dsimp only at hSw); go_simp; (try with_reducible rfl))
              try simp only [Act.put, List.setIfInBounds_toArray, List.set_cons_zero, List.set_cons_succ]
              refine wpAnyX_take (i := 7) (oi := { dst := some 94, op := Go.Op.fieldAddr 94 (Go.Operand.tmp 10) 1, type := 0, pos := "ref.go:382", after := #[], guard := none }) (v := ?_) rfl (by kernel_rfl) (fun _ _ _ h => h) (by rfl) ?_ (by assumption) ?_
              rotate_left
              focus (intro w' hSw; (try dsimp only at hSw); go_simp; (try with_reducible rfl))
              try simp only [Act.put, List.setIfInBounds_toArray, List.set_cons_zero, List.set_cons_succ]
              refine wpAnyX_take (i := 8) (oi := { dst := some 95, op := Go.Op.load 3 (Go.Operand.tmp 94), type := 3, pos := "ref.go:382", after := #[{ on := 7, ground := Go.Ground.data }], guard := none }) (v := ?_) rfl (by kernel_rfl) (fun _ _ _ h => h) (by rfl) ?_ (by assumption) ?_
              rotate_left
              focus (intro w' hSw; (try dsimp only at hSw); go_simp; (try with_reducible rfl))
              try simp only [Act.put, List.setIfInBounds_toArray, List.set_cons_zero, List.set_cons_succ]
              refine wpAnyX_take (i := 10) (oi := { dst := some 97, op := Go.Op.load 30 (Go.Operand.tmp 2), type := 30, pos := "ref.go:382", after := #[], guard := none }) (v := ?_) rfl (by kernel_rfl) (fun _ _ _ h => h) (by rfl) ?_ (by assumption) ?_
              rotate_left
              focus (intro w' hSw; (try dsimp only at hSw); go_simp; (try with_reducible rfl))
              try simp only [Act.put, List.setIfInBounds_toArray, List.set_cons_zero, List.set_cons_succ]
              refine wpAnyX_take (i := 11) (oi := { dst := some 98, op := Go.Op.fieldAddr 94 (Go.Operand.tmp 10) 2, type := 0, pos := "ref.go:382", after := #[], guard := none }) (v := ?_) rfl (by kernel_rfl) (fun _ _ _ h => h) (by rfl) ?_ (by assumption) ?_
              rotate_left
              focus (intro w' hSw; (try dsimp only at hSw); go_simp; (try with_reducible rfl))
              try simp only [Act.put, List.setIfInBounds_toArray, List.set_cons_zero, List.set_cons_succ]
              refine wpAnyX_take (i := 12) (oi := { dst := some 99, op := Go.Op.load 3 (Go.Operand.tmp 98), type := 3, pos := "ref.go:382", after := #[{ on := 11, ground := Go.Ground.data }], guard := none }) (v := ?_) rfl (by kernel_rfl) (fun _ _ _ h => h) (by rfl) ?_ (by assumption) ?_
              rotate_left
              focus (intro w' hSw; (try dsimp only at hSw); go_simp; (try with_reducible rfl))
              try simp only [Act.put, List.setIfInBounds_toArray, List.set_cons_zero, List.set_cons_succ]
              refine wpAnyX_one (k := 5) (o := { dst := some 92, op := Go.Op.call { callee := Go.Callee.value (Go.Operand.func 66), args := #[Go.Operand.tmp 89, Go.Operand.tmp 91], argTypes := #[30, 3] }, type := 3, pos := "ref.go:382", after := #[{ on := 2, ground := Go.Ground.data }, { on := 4, ground := Go.Ground.data }], guard := none }) rfl (by kernel_rfl) (by rfl) ?_
              refine op_fn2 rfl enters66 (by rfl) (by rfl) (rshift_any h x.value _ (by have := HPB.out; omega) (by omega)) ?_
              intro w5 hb
              have T5 := Lib.hid (T4.out.below hb)
              have P5 := Lib.hid ((hb.block _ (Array.getElem?_eq_some_iff.1 P4.out).1).trans P4.out)
              have kS5 := KT.out w5 T5.out.s (cell_of_row _ (w.heap.size + 3) 2 _ _ _ T5.out.j.o) P5.out
              refine ⟨fun _ => kS5, ?_⟩
              clear hb
              try simp only [Act.put, List.setIfInBounds_toArray, List.set_cons_zero, List.set_cons_succ]
              refine wpAnyX_one (k := 9) (o := { dst := some 96, op := Go.Op.call { callee := Go.Callee.value (Go.Operand.func 66), args := #[Go.Operand.tmp 93, Go.Operand.tmp 95], argTypes := #[30, 3] }, type := 3, pos := "ref.go:382", after := #[{ on := 6, ground := Go.Ground.data }, { on := 8, ground := Go.Ground.data }, { on := 5, ground := Go.Ground.chain }], guard := none }) rfl (by kernel_rfl) (by rfl) ?_
              refine op_fn2 rfl enters66 (by rfl) (by rfl) (rshift_any h x.address _ (by have := HPB.out; omega) (by omega)) ?_
              intro w6 hb
              have T6 := Lib.hid (T5.out.below hb)
              have P6 := Lib.hid ((hb.block _ (Array.getElem?_eq_some_iff.1 P5.out).1).trans P5.out)
              have kS6 := KT.out w6 T6.out.s (cell_of_row _ (w.heap.size + 3) 2 _ _ _ T6.out.j.o) P6.out
              refine ⟨fun _ => kS6, ?_⟩
              clear hb
              try simp only [Act.put, List.setIfInBounds_toArray, List.set_cons_zero, List.set_cons_succ]
              refine wpAnyX_one (k := 13) (o := { dst := some 100, op := Go.Op.call { callee := Go.Callee.value (Go.Operand.func 66), args := #[Go.Operand.tmp 97, Go.Operand.tmp 99], argTypes := #[30, 3] }, type := 3, pos := "ref.go:382", after := #[{ on := 10, ground := Go.Ground.data }, { on := 12, ground := Go.Ground.data }, { on := 9, ground := Go.Ground.chain }], guard := none }) rfl (by kernel_rfl) (by rfl) ?_
              refine op_fn2 rfl enters66 (by rfl) (by rfl) (rshift_any h x.desig _ (by have := HPB.out; omega) (by omega)) ?_
              intro w7 hb
              have T7 := Lib.hid (T6.out.below hb)
              have P7 := Lib.hid ((hb.block _ (Array.getElem?_eq_some_iff.1 P6.out).1).trans P6.out)
              have kS7 := KT.out w7 T7.out.s (cell_of_row _ (w.heap.size + 3) 2 _ _ _ T7.out.j.o) P7.out
              refine ⟨fun _ => kS7, ?_⟩
              clear hb
              try simp only [Act.put, List.setIfInBounds_toArray, List.set_cons_zero, List.set_cons_succ]
              refine wpAnyX_one (k := 14) (o := { dst := some 101, op := Go.Op.build 94 #[(0, Go.Operand.tmp 92), (1, Go.Operand.tmp 96), (2, Go.Operand.tmp 100)], type := 94, pos := "ref.go:382", after := #[{ on := 5, ground := Go.Ground.data }, { on := 9, ground := Go.Ground.data }, { on := 13, ground := Go.Ground.data }], guard := none }) rfl (by kernel_rfl) (by rfl) ?_
              refine op_build94 rfl (by rfl) (by rfl) (by rfl) ?_
              refine ⟨fun _ => kS7, ?_⟩
              try simp only [Act.put, List.setIfInBounds_toArray, List.set_cons_zero, List.set_cons_succ]
              refine wpAnyX_one (k := 15) (o := { dst := some 102, op := Go.Op.buildSlice 24 1 #[(0, Go.Operand.tmp 101)], type := 24, pos := "ref.go:382", after := #[{ on := 14, ground := Go.Ground.data }], guard := none }) rfl (by kernel_rfl) (by rfl) ?_
              refine op_bs94 rfl (by rfl) ?_
              have T8 := Lib.hid (T7.out.alloc (.cells #[.int .i64 (mv h.i.n x.value), .int .i64 (mv h.i.n x.address), .int .i64 (mv h.i.n x.desig)] 94))
              have P8 := Lib.hid ((Below.heap_alloc w7 (.cells #[.int .i64 (mv h.i.n x.value), .int .i64 (mv h.i.n x.address), .int .i64 (mv h.i.n x.desig)] 94) _ (Array.getElem?_eq_some_iff.1 P7.out).1).trans P7.out)
              refine ⟨fun _ => KT.out _ T8.out.s (cell_of_row _ (w.heap.size + 3) 2 _ _ _ T8.out.j.o) P8.out, ?_⟩
              try simp only [Act.put, List.setIfInBounds_toArray, List.set_cons_zero, List.set_cons_succ]
              refine wpAnyX_one (k := 16) (o := { dst := some 103, op := Go.Op.call { callee := Go.Callee.builtin Go.Builtin.append, args := #[Go.Operand.tmp 88, Go.Operand.tmp 102], argTypes := #[24, 24] }, type := 24, pos := "ref.go:382", after := #[{ on := 1, ground := Go.Ground.data }, { on := 15, ground := Go.Ground.data }, { on := 13, ground := Go.Ground.chain }], guard := none }) rfl (by kernel_rfl) (by rfl) ?_
              refine wp_catR elemThunk _ _ rfl (w.heap.size + 3) _ _ _ (by rfl) T8.out.j.r2 _ _ _ _ _ (by rfl) (reads_new w7 #[.int .i64 (mv h.i.n x.value), .int .i64 (mv h.i.n x.address), .int .i64 (mv h.i.n x.desig)] 94 3 1 rfl) (one3 _ _ _) (by omega) (Nat.le_of_lt T8.out.lt) ?_
              intro v' w9 ho hg
              obtain ⟨A', c', rfl⟩ := own_shape ho
              have kc : w9.cell? ⟨w.heap.size + 1 + 1 + 1, 2, none⟩ = some (.slice A (h.t.n + k) c) := (T8.out.keep2 hg).1
              have kf : w9.frozen? ⟨w.heap.size + 1 + 1 + 1, 2, none⟩ = false := (T8.out.keep2 hg).2
              have T9 := Lib.hid (T8.out.push2 (x' := jT h a b (k + 1)) (by rw [jT_succ HX.out]; exact ho) hg)
              have P9 := Lib.hid ((hg.block _ (Array.getElem?_eq_some_iff.1 P8.out).1 (fun e => by have := (HT.out.j.r2.lt _ e.symm).2; omega)).trans P8.out)
              have kS := KT.out _ (T8.out.sinv2 hg) kc P9.out
              refine ⟨fun _ => kS, ?_⟩
              try simp only [Act.put, List.setIfInBounds_toArray, List.set_cons_zero, List.set_cons_succ]
              refine wpAnyX_one (k := 17) (o := { dst := some 104, op := Go.Op.fieldAddr 30 (Go.Operand.tmp 5) 2, type := 0, pos := "ref.go:382", after := #[{ on := 0, ground := Go.Ground.phase }, { on := 1, ground := Go.Ground.phase }, { on := 2, ground := Go.Ground.phase }, { on := 3, ground := Go.Ground.phase }, { on := 4, ground := Go.Ground.phase }, { on := 5, ground := Go.Ground.phase }, { on := 6, ground := Go.Ground.phase }, { on := 7, ground := Go.Ground.phase }, { on := 8, ground := Go.Ground.phase }, { on := 9, ground := Go.Ground.phase }, { on := 10, ground := Go.Ground.phase }, { on := 11, ground := Go.Ground.phase }, { on := 12, ground := Go.Ground.phase }, { on := 13, ground := Go.Ground.phase }, { on := 14, ground := Go.Ground.phase }, { on := 15, ground := Go.Ground.phase }, { on := 16, ground := Go.Ground.phase }], guard := none }) rfl (by kernel_rfl) (by rfl) ?_
              refine op_fieldAddr rfl (by rfl) (by decide) ?_
              refine ⟨fun _ => kS, ?_⟩
              try simp only [Act.put, List.setIfInBounds_toArray, List.set_cons_zero, List.set_cons_succ]
              refine wpAnyX_one (k := 18) (o := { dst := none, op := Go.Op.store 24 (Go.Operand.tmp 104) (Go.Operand.tmp 103), type := 0, pos := "ref.go:382", after := #[{ on := 17, ground := Go.Ground.data }, { on := 16, ground := Go.Ground.data }, { on := 16, ground := Go.Ground.chain }, { on := 0, ground := Go.Ground.phase }, { on := 1, ground := Go.Ground.phase }, { on := 2, ground := Go.Ground.phase }, { on := 3, ground := Go.Ground.phase }, { on := 4, ground := Go.Ground.phase }, { on := 5, ground := Go.Ground.phase }, { on := 6, ground := Go.Ground.phase }, { on := 7, ground := Go.Ground.phase }, { on := 8, ground := Go.Ground.phase }, { on := 9, ground := Go.Ground.phase }, { on := 10, ground := Go.Ground.phase }, { on := 11, ground := Go.Ground.phase }, { on := 12, ground := Go.Ground.phase }, { on := 13, ground := Go.Ground.phase }, { on := 14, ground := Go.Ground.phase }, { on := 15, ground := Go.Ground.phase }, { on := 16, ground := Go.Ground.phase }], guard := none }) rfl (by kernel_rfl) (by rfl) ?_
              refine op_put24 rfl (by rfl) (by rfl) ⟨_, _, _, rfl⟩ kc kf ?_
              refine ⟨fun h => absurd rfl h, ?_⟩
              try simp only [Act.put]
              refine wpAnyX_done (by kernel_rfl) ?_ _
              go_wp2
              go_roundw
              case rel => exact ⟨k + 1, _, _, by omega, by go_num, T9.out⟩
              case measure => simp [intOf]; omega
            · obtain rfl : k = g.t.n := by omega
              have e0 := HT.out.s.d2
              have J0 := Lib.hid (JSw.nil (w.heap.size + 1) wr)
              obtain ⟨A2, hA2⟩ : ∃ x, x = A := ⟨_, rfl⟩
              obtain ⟨k2, hk2⟩ : ∃ x, x = c := ⟨_, rfl⟩
              subst hA2
              subst hk2
              go_wp2
              clear e0
              go_loopw [11] (fun i wr => ∃ (k : Nat) (A : Option Addr) (c : Nat) (sh : List SH), k ≤ h.s.n ∧ i = .int .i64 k ∧ RJ w.heap.size h g w wr (.slice A0 (h.i.n + g.i.n) k0) (.slice A1 (h.p.n + g.p.n) k1) (.slice A2 (h.t.n + g.t.n) k2) (.slice A k c) (.slice none 0 0) (.slice none 0 0) (.slice none 0 0) (h.i.n + g.i.n) (h.p.n + g.p.n) (h.t.n + g.t.n) k 0 0 0 (jI h a b g.i.n) (jP h a b g.p.n) (jT h a b g.t.n) (sh.map SH.v) [] [] [] ∧ JSw (w.heap.size + 1) wr sh (a.switches.take k)) (fun i _ => h.s.n - (intOf i).toNat)
              case atStart => exact ⟨0, none, 0, [], by omega, rfl, HT.out, J0.out⟩
              case round =>
                clear HT J0
                obtain ⟨k, A, c, sh, hk, rfl, hT, hJ⟩ := hrel
                have HT := Lib.hid hT
                have HJ := Lib.hid hJ
                clear hT hJ
                have q3 := HT.out.s.x.c3
                by_cases hlt : k < h.s.n
                · have hn : h.s.n ≤ 140737488351232 := HA.out.ns.2
                  obtain ⟨hs, hr, hsl, hsx⟩ := HA.out.s
                  obtain ⟨ad, x, had, hx, hab, c0⟩ := Reads.elem1 (f := SH.v) (hr.below HT.out.s.x.b) (HA.out.ns.1.trans hsl.symm) hlt
                  obtain ⟨l, hl⟩ : ∃ l, a.switches[k]? = some l := ⟨_, List.getElem?_eq_getElem (by have := HA.out.ns.1; omega)⟩
                  have HSX := Lib.hid (hsx k x l hx hl)
                  have HLX := Lib.hid hl
                  have HLN : Hid (x.n = l.length) := Lib.hid (by have := HSX.out.1.1; simp [intCells] at this; omega)
                  have hxn : x.n ≤ 2000 := by rw [HLN.out]; exact sw_length HA.out HFA.out l (List.mem_of_getElem? hl)
                  have hz := HT.out.lt
                  have Z0 : w.heap.size ≤ wr.heap.size := by omega
                  rw [had] at q3 ⊢
                  have HAD := Lib.hid had
                  have HCE : Hid (wr.cell? (ad.add k) = some (.slice x.a x.n x.c)) := Lib.hid c0
                  have HAB := Lib.hid hab
                  have TD := Lib.hid HT.out.drew
                  have hk0 : (0 : Int) ≤ (k : Int) := by omega
                  have hk1 : (k : Int) < (h.s.n : Int) := by omega
                  have KT : Hid (∀ W, SInv w.heap.size h g w W → W.cell? ⟨w.heap.size + 1 + 1 + 1, 3, none⟩ = some (.slice A k c) → Below w.heap.size wr W → (W.cell? ⟨w.heap.size, 3, none⟩ = some (.slice (some ad) h.s.n h.s.c) ∧ W.cell? (ad.add k) = some (.slice x.a x.n x.c) ∧ W.cell? ⟨w.heap.size + 1 + 1 + 1, 3, none⟩ = some (.slice A k c))) := Lib.hid (fun W hS hO hW => ⟨(by rw [← HAD.out]; exact hS.x.c3), (hW.cell (p := ad.add k) (by rw [block_of_add]; exact HAB.out)).trans HCE.out, hO⟩)
                  clear hr hsl hsx c0 hab had hx hl
                  go_wp2
                  refine wp_region_X (by kernel_rfl) (fun w' => w'.cell? ⟨w.heap.size, 3, none⟩ = some (.slice (some ad) h.s.n h.s.c) ∧ w'.cell? (ad.add k) = some (.slice x.a x.n x.c) ∧ w'.cell? ⟨w.heap.size + 1 + 1 + 1, 3, none⟩ = some (.slice A k c)) 12 ?_
                  have hHeld := KT.out _ TD.out.s (cell_of_row _ (w.heap.size + 3) 3 _ _ _ TD.out.j.o) (Below.refl _ _).drew
                  refine wpAnyX_take (i := 0) (oi := { dst := some 112, op := Go.Op.fieldAddr 30 (Go.Operand.tmp 5) 3, type := 0, pos := "ref.go:385", after := #[], guard := none }) (v := ?_) rfl (by kernel_rfl) (fun _ _ _ h => h) (by rfl) ?_ (by assumption) ?_
                  rotate_left
                  focus (intro w' hSw; (try dsimp only at hSw); go_simp; (try with_reducible rfl))
                  try simp only [Act.put, List.setIfInBounds_toArray, List.set_cons_zero, List.set_cons_succ]
                  refine wpAnyX_take (i := 1) (oi := { dst := some 113, op := Go.Op.load 25 (Go.Operand.tmp 112), type := 25, pos := "ref.go:385", after := #[{ on := 0, ground := Go.Ground.data }], guard := none }) (v := ?_) rfl (by kernel_rfl) (fun _ _ _ h => h) (by rfl) ?_ (by assumption) ?_
                  rotate_left
                  focus (intro w' hSw; (try dsimp only at hSw); go_simp; (try with_reducible rfl))
                  try simp only [Act.put, List.setIfInBounds_toArray, List.set_cons_zero, List.set_cons_succ]
                  refine wpAnyX_take (i := 3) (oi := { dst := some 115, op := Go.Op.fieldAddr 30 (Go.Operand.tmp 2) 3, type := 0, pos := "ref.go:385", after := #[], guard := none }) (v := ?_) rfl (by kernel_rfl) (fun _ _ _ h => h) (by rfl) ?_ (by assumption) ?_
                  rotate_left
                  focus (intro w' hSw; (try dsimp only at hSw); go_simp; (try with_reducible rfl))
                  try simp only [Act.put, List.setIfInBounds_toArray, List.set_cons_zero, List.set_cons_succ]
                  refine wpAnyX_take (i := 4) (oi := { dst := some 116, op := Go.Op.load 25 (Go.Operand.tmp 115), type := 25, pos := "ref.go:385", after := #[{ on := 3, ground := Go.Ground.data }], guard := none }) (v := ?_) rfl (by kernel_rfl) (fun _ _ _ h => h) (by rfl) ?_ (by assumption) ?_
                  rotate_left
                  focus (intro w' hSw; (try dsimp only at hSw); go_simp; (try with_reducible rfl))
                  try simp only [Act.put, List.setIfInBounds_toArray, List.set_cons_zero, List.set_cons_succ]
                  refine wpAnyX_take (i := 5) (oi := { dst := some 117, op := Go.Op.move (Go.Operand.tmp 11), type := 3, pos := "ref.go:385", after := #[], guard := none }) (v := ?_) rfl (by kernel_rfl) (fun _ _ _ h => h) (by rfl) ?_ (by assumption) ?_
                  rotate_left
                  focus (intro w' hSw; (try dsimp only at hSw); go_simp; (try with_reducible rfl))
                  try simp only [Act.put, List.setIfInBounds_toArray, List.set_cons_zero, List.set_cons_succ]
                  refine wpAnyX_take (i := 6) (oi := { dst := some 118, op := Go.Op.indexAddr 25 (Go.Operand.tmp 116) (Go.Operand.tmp 117), type := 0, pos := "ref.go:385", after := #[{ on := 4, ground := Go.Ground.data }, { on := 5, ground := Go.Ground.data }], guard := none }) (v := ?_) rfl (by kernel_rfl) (fun _ _ _ h => h) (by rfl) ?_ (by assumption) ?_
                  rotate_left
                  focus (intro w' hSw; (try dsimp only at hSw); go_simp; (try with_reducible rfl))
                  try simp only [Act.put, List.setIfInBounds_toArray, List.set_cons_zero, List.set_cons_succ]
                  refine wpAnyX_take (i := 7) (oi := { dst := some 119, op := Go.Op.load 28 (Go.Operand.tmp 118), type := 28, pos := "ref.go:385", after := #[{ on := 6, ground := Go.Ground.data }], guard := none }) (v := ?_) rfl (by kernel_rfl) (fun _ _ _ h => h) (by rfl) ?_ (by assumption) ?_
                  rotate_left
                  focus (intro w' hSw; (try dsimp only at hSw); go_simp; (try with_reducible rfl))
                  try simp only [Act.put, List.setIfInBounds_toArray, List.set_cons_zero, List.set_cons_succ]
                  refine wpAnyX_one (k := 2) (o := { dst := some 114, op := Go.Op.buildSlice 28 0 #[], type := 28, pos := "ref.go:385", after := #[], guard := none }) rfl (by kernel_rfl) (by rfl) ?_
                  refine op_bs28z rfl ?_
                  have T5 := Lib.hid (TD.out.alloc (.cells #[] 3))
                  have b5 := ((Below.refl w.heap.size wr).drew).alloc Z0 (.cells #[] 3)
                  refine ⟨fun _ => KT.out _ T5.out.s (cell_of_row _ (w.heap.size + 3) 3 _ _ _ T5.out.j.o) b5, ?_⟩
                  try simp only [Act.put, List.setIfInBounds_toArray, List.set_cons_zero, List.set_cons_succ]
                  refine wpAnyX_one (k := 8) (o := { dst := some 120, op := Go.Op.call { callee := Go.Callee.builtin Go.Builtin.append, args := #[Go.Operand.tmp 114, Go.Operand.tmp 119], argTypes := #[28, 28] }, type := 28, pos := "ref.go:385", after := #[{ on := 2, ground := Go.Ground.data }, { on := 7, ground := Go.Ground.data }], guard := none }) rfl (by kernel_rfl) (by rfl) ?_
                  have hE : ((wr.drew).alloc (.cells #[] 3)).ownsRow wr.heap.size 3 1 (.slice (some ⟨wr.heap.size, 0, none⟩) 0 0) 0 [] := World.ownsRow_made wr.drew #[] 0 (Nat.le_refl _) (by decide) rfl
                  refine wp_catR elemInts _ _ rfl wr.heap.size _ _ _ (by rfl) hE w.heap.size x.a x.n x.c _ (by rfl) (HSX.out.1.below (HT.out.s.x.b.trans b5)) (one_ints _) (by omega) (by simp) ?_
                  intro v' w6 ho hg
                  rw [Nat.zero_add, List.nil_append] at ho
                  obtain ⟨Az, cz, rfl⟩ := own_shape ho
                  have hbE : Below wr.heap.size wr w6 := (((Below.refl _ _).drew).alloc (Nat.le_refl _) (.cells #[] 3)).grown hg (by simp) (fun q hq => (hE.lt q hq).1)
                  have T6 := Lib.hid (HT.out.below hbE)
                  have J6 := Lib.hid (HJ.out.below hbE)
                  have hb6 := hbE.mono Z0
                  obtain ⟨z, hze⟩ : ∃ z : SH, z = ⟨Az, x.n, cz⟩ := ⟨_, rfl⟩
                  have hzv : Value.slice Az x.n cz = z.v := by rw [hze]; rfl
                  have hzn : z.n = l.length := by rw [hze]; exact HLN.out
                  rw [hzv] at ho ⊢
                  have Z6 : Hid (w6.ownsRow (w.heap.size + 3) 3 1 z.v l.length (intCells l)) := Lib.hid (by rw [← HLN.out]; exact own_mono ho (Nat.le_of_lt hz))
                  clear hze ho
                  refine ⟨fun _ => KT.out _ T6.out.s (cell_of_row _ (w.heap.size + 3) 3 _ _ _ T6.out.j.o) hb6, ?_⟩
                  try simp only [Act.put, List.setIfInBounds_toArray, List.set_cons_zero, List.set_cons_succ]
                  refine wpAnyX_one (k := 9) (o := { dst := some 121, op := Go.Op.buildSlice 25 1 #[(0, Go.Operand.tmp 120)], type := 25, pos := "ref.go:385", after := #[{ on := 8, ground := Go.Ground.data }], guard := none }) rfl (by kernel_rfl) (by rfl) ?_
                  refine op_bs25 (s := z) rfl (by rfl) ?_
                  have T8 := Lib.hid (T6.out.alloc (.cells #[z.v] 28))
                  have J8 := Lib.hid (J6.out.below ((Below.refl _ _).alloc (Nat.le_refl _) (.cells #[z.v] 28)))
                  have Z8 := Lib.hid (Z6.out.alloc (.cells #[z.v] 28))
                  have b8 := hb6.alloc (by have := T6.out.lt; omega) (.cells #[z.v] 28)
                  refine ⟨fun _ => KT.out _ T8.out.s (cell_of_row _ (w.heap.size + 3) 3 _ _ _ T8.out.j.o) b8, ?_⟩
                  try simp only [Act.put, List.setIfInBounds_toArray, List.set_cons_zero, List.set_cons_succ]
                  refine wpAnyX_one (k := 10) (o := { dst := some 122, op := Go.Op.call { callee := Go.Callee.builtin Go.Builtin.append, args := #[Go.Operand.tmp 113, Go.Operand.tmp 121], argTypes := #[25, 25] }, type := 25, pos := "ref.go:385", after := #[{ on := 1, ground := Go.Ground.data }, { on := 9, ground := Go.Ground.data }, { on := 8, ground := Go.Ground.chain }], guard := none }) rfl (by kernel_rfl) (by rfl) ?_
                  refine wp_catR elemSw _ _ rfl (w.heap.size + 3) _ _ _ (by rfl) T8.out.j.r3 _ _ _ _ _ (by rfl) (reads_new w6 #[z.v] 28 1 1 rfl) (one_sh z) (by omega) (Nat.le_of_lt T8.out.lt) ?_
                  intro v' w9 ho hg
                  obtain ⟨A', c', rfl⟩ := own_shape ho
                  have kc : w9.cell? ⟨w.heap.size + 1 + 1 + 1, 3, none⟩ = some (.slice A k c) := (T8.out.keep3 hg).1
                  have kf : w9.frozen? ⟨w.heap.size + 1 + 1 + 1, 3, none⟩ = false := (T8.out.keep3 hg).2
                  have T9 := Lib.hid (T8.out.push3 (x' := (sh ++ [z]).map SH.v) (by rw [List.map_append]; exact ho) hg)
                  have J9 := Lib.hid (jsw_push (Y := w.heap.size + 1) T8.out.j J8.out ho hg (Nat.le_refl _) (own_kept_ty Z8.out T8.out.j.r3 (by decide) hg) hzn (take_snoc_of HLX.out))
                  have kS := KT.out _ (T8.out.sinv3 hg) kc (b8.trans ((T8.out.grow3 hg).mono (by omega)))
                  refine ⟨fun _ => kS, ?_⟩
                  try simp only [Act.put, List.setIfInBounds_toArray, List.set_cons_zero, List.set_cons_succ]
                  refine wpAnyX_one (k := 11) (o := { dst := some 123, op := Go.Op.fieldAddr 30 (Go.Operand.tmp 5) 3, type := 0, pos := "ref.go:385", after := #[{ on := 0, ground := Go.Ground.phase }, { on := 1, ground := Go.Ground.phase }, { on := 2, ground := Go.Ground.phase }, { on := 3, ground := Go.Ground.phase }, { on := 4, ground := Go.Ground.phase }, { on := 5, ground := Go.Ground.phase }, { on := 6, ground := Go.Ground.phase }, { on := 7, ground := Go.Ground.phase }, { on := 8, ground := Go.Ground.phase }, { on := 9, ground := Go.Ground.phase }, { on := 10, ground := Go.Ground.phase }], guard := none }) rfl (by kernel_rfl) (by rfl) ?_
                  refine op_fieldAddr rfl (by rfl) (by decide) ?_
                  refine ⟨fun _ => kS, ?_⟩
                  try simp only [Act.put, List.setIfInBounds_toArray, List.set_cons_zero, List.set_cons_succ]
                  refine wpAnyX_one (k := 12) (o := { dst := none, op := Go.Op.store 25 (Go.Operand.tmp 123) (Go.Operand.tmp 122), type := 0, pos := "ref.go:385", after := #[{ on := 11, ground := Go.Ground.data }, { on := 10, ground := Go.Ground.data }, { on := 10, ground := Go.Ground.chain }, { on := 0, ground := Go.Ground.phase }, { on := 1, ground := Go.Ground.phase }, { on := 2, ground := Go.Ground.phase }, { on := 3, ground := Go.Ground.phase }, { on := 4, ground := Go.Ground.phase }, { on := 5, ground := Go.Ground.phase }, { on := 6, ground := Go.Ground.phase }, { on := 7, ground := Go.Ground.phase }, { on := 8, ground := Go.Ground.phase }, { on := 9, ground := Go.Ground.phase }, { on := 10, ground := Go.Ground.phase }], guard := none }) rfl (by kernel_rfl) (by rfl) ?_
                  refine op_put25 rfl (by rfl) (by rfl) ⟨_, _, _, rfl⟩ kc kf ?_
                  refine ⟨fun h => absurd rfl h, ?_⟩
                  try simp only [Act.put]
                  refine wpAnyX_done (by kernel_rfl) ?_ _
                  go_wp2
                  go_roundw
                  case rel => exact ⟨k + 1, _, _, sh ++ [z], by omega, by go_num, T9.out, J9.out⟩
                  case measure => simp [intOf]; omega
                · obtain rfl : k = h.s.n := by omega
                  have e0 := HT.out.s.d3
                  have J0 : Hid (JSw (w.heap.size + 1) wr sh (a.switches ++ (b.switches.take 0).map fun l => l.map (mv h.i.n))) := Lib.hid (by
                    have := HJ.out
                    rw [List.take_of_length_le (by have := HA.out.ns.1; omega)] at this
                    simpa using this)
                  clear HJ
                  obtain ⟨AS, hAS⟩ : ∃ x, x = A := ⟨_, rfl⟩
                  obtain ⟨kS, hkS⟩ : ∃ x, x = c := ⟨_, rfl⟩
                  subst hAS
                  subst hkS
                  go_wp2
                  clear e0 q3
                  go_loopw [12] (fun i wr => ∃ (k : Nat) (A : Option Addr) (c : Nat) (sh : List SH), k ≤ g.s.n ∧ i = .int .i64 k ∧ RJ w.heap.size h g w wr (.slice A0 (h.i.n + g.i.n) k0) (.slice A1 (h.p.n + g.p.n) k1) (.slice A2 (h.t.n + g.t.n) k2) (.slice A (h.s.n + k) c) (.slice none 0 0) (.slice none 0 0) (.slice none 0 0) (h.i.n + g.i.n) (h.p.n + g.p.n) (h.t.n + g.t.n) (h.s.n + k) 0 0 0 (jI h a b g.i.n) (jP h a b g.p.n) (jT h a b g.t.n) (sh.map SH.v) [] [] [] ∧ JSw (w.heap.size + 1) wr sh (a.switches ++ (b.switches.take k).map fun l => l.map (mv h.i.n))) (fun i _ => g.s.n - (intOf i).toNat)
                  case atStart => exact ⟨0, _, _, sh, by omega, rfl, HT.out, J0.out⟩
                  case round =>
                    clear HT J0
                    obtain ⟨k, A, c, sh, hk, rfl, hT, hJ⟩ := hrel
                    have HT := Lib.hid hT
                    have HJ := Lib.hid hJ
                    clear hT hJ
                    have q3 := HT.out.s.d3
                    by_cases hlt : k < g.s.n
                    · have hn : g.s.n ≤ 140737488351232 := HB.out.ns.2
                      obtain ⟨hs, hr, hsl, hsx⟩ := HB.out.s
                      obtain ⟨ad, x, had, hx, hab, c0⟩ := Reads.elem1 (f := SH.v) (hr.below HT.out.s.x.b) (HB.out.ns.1.trans hsl.symm) hlt
                      obtain ⟨l, hl⟩ : ∃ l, b.switches[k]? = some l := ⟨_, List.getElem?_eq_getElem (by have := HB.out.ns.1; omega)⟩
                      have HSX := Lib.hid (hsx k x l hx hl)
                      have HLX := Lib.hid hl
                      have HLN : Hid (x.n = l.length) := Lib.hid (by have := HSX.out.1.1; simp [intCells] at this; omega)
                      have hxn : x.n ≤ 2000 := by rw [HLN.out]; exact sw_length HB.out HFB.out l (List.mem_of_getElem? hl)
                      have HYL := Lib.hid (sw_bound HB.out HFB.out hl)
                      have hz := HT.out.lt
                      have Z0 : w.heap.size ≤ wr.heap.size := by omega
                      have HAD := Lib.hid had
                      have HCE : Hid (wr.cell? (ad.add k) = some (.slice x.a x.n x.c)) := Lib.hid c0
                      have HAB := Lib.hid hab
                      have hk0 : (0 : Int) ≤ (k : Int) := by omega
                      have hk1 : (k : Int) < (g.s.n : Int) := by omega
                      rw [had] at q3 ⊢
                      clear hr hsl hsx hab had hx hl c0
                      go_wp2
                      obtain ⟨wo, hwo⟩ : ∃ wo : World, wo = wr := ⟨_, rfl⟩
                      subst hwo
                      go_loopw [13, 14] (fun v i wr => ∃ (j : Nat) (Al : Option Addr) (cl : Nat), j ≤ x.n ∧ v = .slice Al j cl ∧ i = .int .i64 j ∧ Below wo.heap.size wo wr ∧ wr.ownsRow wo.heap.size 3 1 (.slice Al j cl) j (intCells ((l.take j).map (mv h.i.n)))) (fun _ i _ => x.n - (intOf i).toNat)
                      case atStart => exact ⟨0, none, 0, by omega, rfl, rfl, Below.refl _ _, World.ownsRow_nil _ _ _ _⟩
                      case round =>
                        obtain ⟨j, Al, cl, hj, rfl, rfl, hbl, hol⟩ := hrel
                        have HBL := Lib.hid hbl
                        have HOL := Lib.hid hol
                        have HTI := Lib.hid (HT.out.below hbl)
                        have q4 := HTI.out.s.d3
                        rw [HAD.out] at q4
                        have h4 : wr.cell? (ad.add k) = some (.slice x.a x.n x.c) := (hbl.cell (p := ad.add k) (by rw [block_of_add]; exact Nat.lt_of_lt_of_le HAB.out Z0)).trans HCE.out
                        clear hbl hol q3
                        by_cases hjl : j < x.n
                        · obtain ⟨ad2, y, had2, hy, hab2, c2⟩ := Reads.elem1 (f := Value.int .i64) (HSX.out.1.below HTI.out.s.x.b) HLN.out hjl
                          have HY := Lib.hid hy
                          have HYB := Lib.hid (HYL.out y (List.mem_of_getElem? hy))
                          have HAB2 := Lib.hid hab2
                          have HC2 := Lib.hid c2
                          rw [had2] at h4
                          have HCE2 := Lib.hid h4
                          have hbl := HBL.out
                          have TD := Lib.hid HTI.out.drew
                          have HOD : Hid (wr.drew.ownsRow wo.heap.size 3 1 (.slice Al j cl) j (intCells ((l.take j).map (mv h.i.n)))) := Lib.hid (own_below HOL.out ((Below.refl _ _).drew))
                          have Zl : wo.heap.size ≤ wr.drew.heap.size := hbl.size
                          have hj0 : (0 : Int) ≤ (j : Int) := by omega
                          have hj1 : (j : Int) < (x.n : Int) := by omega
                          have KT : Hid (∀ W, SInv w.heap.size h g w W → Below w.heap.size wo W → (W.cell? ⟨w.heap.size, 0, none⟩ = some (.slice h.i.a h.i.n h.i.c) ∧ W.cell? ⟨w.heap.size, 1, none⟩ = some (.slice h.p.a h.p.n h.p.c) ∧ W.cell? ⟨w.heap.size, 2, none⟩ = some (.slice h.t.a h.t.n h.t.c) ∧ W.cell? ⟨w.heap.size, 3, none⟩ = some (.slice h.s.a h.s.n h.s.c) ∧ W.cell? ⟨w.heap.size, 4, none⟩ = some (.slice h.g.a h.g.n h.g.c) ∧ W.cell? ⟨w.heap.size, 5, none⟩ = some (.slice h.r.a h.r.n h.r.c) ∧ W.cell? ⟨w.heap.size, 6, none⟩ = some (.slice h.o.a h.o.n h.o.c) ∧ W.cell? ⟨w.heap.size + 1, 3, none⟩ = some (.slice (some ad) g.s.n g.s.c) ∧ W.cell? (ad.add k) = some (.slice (some ad2) x.n x.c) ∧ W.cell? (ad2.add j) = some (.int .i64 y))) := Lib.hid (fun W hS hW => by
                            have e1 : wo.cell? (ad.add k) = some (.slice (some ad2) x.n x.c) := by rw [HCE.out, had2]
                            have e2 : wo.cell? (ad2.add j) = some (.int .i64 y) := by rw [← HC2.out]; exact (hbl.cell (p := ad2.add j) (by rw [block_of_add]; exact Nat.lt_of_lt_of_le HAB2.out Z0)).symm
                            exact ⟨hS.x.c0, hS.x.c1, hS.x.c2, hS.x.c3, hS.x.c4, hS.x.c5, hS.x.c6, (by rw [← HAD.out]; exact hS.d3), (hW.cell (p := ad.add k) (by rw [block_of_add]; exact HAB.out)).trans e1, (hW.cell (p := ad2.add j) (by rw [block_of_add]; exact HAB2.out)).trans e2⟩)
                          clear hy hab2 c2 had2
                          go_wp2
                          refine wp_region_X (by kernel_rfl) (fun w' => w'.cell? ⟨w.heap.size, 0, none⟩ = some (.slice h.i.a h.i.n h.i.c) ∧ w'.cell? ⟨w.heap.size, 1, none⟩ = some (.slice h.p.a h.p.n h.p.c) ∧ w'.cell? ⟨w.heap.size, 2, none⟩ = some (.slice h.t.a h.t.n h.t.c) ∧ w'.cell? ⟨w.heap.size, 3, none⟩ = some (.slice h.s.a h.s.n h.s.c) ∧ w'.cell? ⟨w.heap.size, 4, none⟩ = some (.slice h.g.a h.g.n h.g.c) ∧ w'.cell? ⟨w.heap.size, 5, none⟩ = some (.slice h.r.a h.r.n h.r.c) ∧ w'.cell? ⟨w.heap.size, 6, none⟩ = some (.slice h.o.a h.o.n h.o.c) ∧ w'.cell? ⟨w.heap.size + 1, 3, none⟩ = some (.slice (some ad) g.s.n g.s.c) ∧ w'.cell? (ad.add k) = some (.slice (some ad2) x.n x.c) ∧ w'.cell? (ad2.add j) = some (.int .i64 y)) 13 ?_
                          have hHeld := KT.out _ TD.out.s (hbl.drew.mono Z0)
                          refine wpAnyX_take (i := 0) (oi := { dst := some 141, op := Go.Op.move (Go.Operand.tmp 13), type := 28, pos := "ref.go:390", after := #[], guard := none }) (v := ?_) rfl (by kernel_rfl) (fun _ _ _ h => h) (by rfl) ?_ (by assumption) ?_
                          rotate_left
                          focus (intro w' hSw; (try dsimp only at hSw); go_simp; (try with_reducible rfl))
                          try simp only [Act.put, List.setIfInBounds_toArray, List.set_cons_zero, List.set_cons_succ]
                          refine wpAnyX_take (i := 1) (oi := { dst := some 142, op := Go.Op.load 30 (Go.Operand.tmp 2), type := 30, pos := "ref.go:390", after := #[], guard := none }) (v := ?_) rfl (by kernel_rfl) (fun _ _ _ h => h) (by rfl) ?_ (by assumption) ?_
                          rotate_left
                          focus (intro w' hSw; (try dsimp only at hSw); go_simp; (try with_reducible rfl))
                          try simp only [Act.put, List.setIfInBounds_toArray, List.set_cons_zero, List.set_cons_succ]
                          refine wpAnyX_take (i := 2) (oi := { dst := some 143, op := Go.Op.fieldAddr 30 (Go.Operand.tmp 3) 3, type := 0, pos := "ref.go:390", after := #[], guard := none }) (v := ?_) rfl (by kernel_rfl) (fun _ _ _ h => h) (by rfl) ?_ (by assumption) ?_
                          rotate_left
                          focus (intro w' hSw; (try dsimp only at hSw); go_simp; (try with_reducible rfl))
                          try simp only [Act.put, List.setIfInBounds_toArray, List.set_cons_zero, List.set_cons_succ]
                          refine wpAnyX_take (i := 3) (oi := { dst := some 144, op := Go.Op.load 25 (Go.Operand.tmp 143), type := 25, pos := "ref.go:390", after := #[{ on := 2, ground := Go.Ground.data }], guard := none }) (v := ?_) rfl (by kernel_rfl) (fun _ _ _ h => h) (by rfl) ?_ (by assumption) ?_
                          rotate_left
                          focus (intro w' hSw; (try dsimp only at hSw); go_simp; (try with_reducible rfl))
                          try simp only [Act.put, List.setIfInBounds_toArray, List.set_cons_zero, List.set_cons_succ]
                          refine wpAnyX_take (i := 4) (oi := { dst := some 145, op := Go.Op.move (Go.Operand.tmp 12), type := 3, pos := "ref.go:390", after := #[], guard := none }) (v := ?_) rfl (by kernel_rfl) (fun _ _ _ h => h) (by rfl) ?_ (by assumption) ?_
                          rotate_left
                          focus (intro w' hSw; (try dsimp only at hSw); go_simp; (try with_reducible rfl))
                          try simp only [Act.put, List.setIfInBounds_toArray, List.set_cons_zero, List.set_cons_succ]
                          refine wpAnyX_take (i := 5) (oi := { dst := some 146, op := Go.Op.indexAddr 25 (Go.Operand.tmp 144) (Go.Operand.tmp 145), type := 0, pos := "ref.go:390", after := #[{ on := 3, ground := Go.Ground.data }, { on := 4, ground := Go.Ground.data }], guard := none }) (v := ?_) rfl (by kernel_rfl) (fun _ _ _ h => h) (by rfl) ?_ (by assumption) ?_
                          rotate_left
                          focus (intro w' hSw; (try dsimp only at hSw); go_simp; (try with_reducible rfl))
                          try simp only [Act.put, List.setIfInBounds_toArray, List.set_cons_zero, List.set_cons_succ]
                          refine wpAnyX_take (i := 6) (oi := { dst := some 147, op := Go.Op.load 28 (Go.Operand.tmp 146), type := 28, pos := "ref.go:390", after := #[{ on := 5, ground := Go.Ground.data }], guard := none }) (v := ?_) rfl (by kernel_rfl) (fun _ _ _ h => h) (by rfl) ?_ (by assumption) ?_
                          rotate_left
                          focus (intro w' hSw; (try dsimp only at hSw); go_simp; (try with_reducible rfl))
                          try simp only [Act.put, List.setIfInBounds_toArray, List.set_cons_zero, List.set_cons_succ]
                          refine wpAnyX_take (i := 7) (oi := { dst := some 148, op := Go.Op.move (Go.Operand.tmp 14), type := 3, pos := "ref.go:390", after := #[], guard := none }) (v := ?_) rfl (by kernel_rfl) (fun _ _ _ h => h) (by rfl) ?_ (by assumption) ?_
                          rotate_left
                          focus (intro w' hSw; (try dsimp only at hSw); go_simp; (try with_reducible rfl))
                          try simp only [Act.put, List.setIfInBounds_toArray, List.set_cons_zero, List.set_cons_succ]
                          refine wpAnyX_take (i := 8) (oi := { dst := some 149, op := Go.Op.indexAddr 28 (Go.Operand.tmp 147) (Go.Operand.tmp 148), type := 0, pos := "ref.go:390", after := #[{ on := 6, ground := Go.Ground.data }, { on := 7, ground := Go.Ground.data }], guard := none }) (v := ?_) rfl (by kernel_rfl) (fun _ _ _ h => h) (by rfl) ?_ (by assumption) ?_
                          rotate_left
                          focus (intro w' hSw; (try dsimp only at hSw); go_simp; (try with_reducible rfl))
                          try simp only [Act.put, List.setIfInBounds_toArray, List.set_cons_zero, List.set_cons_succ]
                          refine wpAnyX_take (i := 9) (oi := { dst := some 150, op := Go.Op.load 3 (Go.Operand.tmp 149), type := 3, pos := "ref.go:390", after := #[{ on := 8, ground := Go.Ground.data }], guard := none }) (v := ?_) rfl (by kernel_rfl) (fun _ _ _ h => h) (by rfl) ?_ (by assumption) ?_
                          rotate_left
                          focus (intro w' hSw; (try dsimp only at hSw); go_simp; (try with_reducible rfl))
                          try simp only [Act.put, List.setIfInBounds_toArray, List.set_cons_zero, List.set_cons_succ]
                          refine wpAnyX_one (k := 10) (o := { dst := some 151, op := Go.Op.call { callee := Go.Callee.value (Go.Operand.func 66), args := #[Go.Operand.tmp 142, Go.Operand.tmp 150], argTypes := #[30, 3] }, type := 3, pos := "ref.go:390", after := #[{ on := 1, ground := Go.Ground.data }, { on := 9, ground := Go.Ground.data }], guard := none }) rfl (by kernel_rfl) (by rfl) ?_
                          refine op_fn2 rfl enters66 (by rfl) (by rfl) (rshift_any h y _ HYB.out (by omega)) ?_
                          intro w5 hb
                          have T5 := Lib.hid (TD.out.below hb)
                          have b5 := hbl.drew.trans (hb.mono Zl)
                          have O5 := Lib.hid (own_below HOD.out hb)
                          refine ⟨fun _ => KT.out _ T5.out.s (b5.mono Z0), ?_⟩
                          try simp only [Act.put, List.setIfInBounds_toArray, List.set_cons_zero, List.set_cons_succ]
                          refine wpAnyX_one (k := 11) (o := { dst := some 152, op := Go.Op.buildSlice 28 1 #[(0, Go.Operand.tmp 151)], type := 28, pos := "ref.go:390", after := #[{ on := 10, ground := Go.Ground.data }], guard := none }) rfl (by kernel_rfl) (by rfl) ?_
                          refine op_bs28 rfl (by rfl) ?_
                          have T6 := Lib.hid (T5.out.alloc (.cells #[.int .i64 (mv h.i.n y)] 3))
                          have b6 := b5.alloc b5.size (.cells #[.int .i64 (mv h.i.n y)] 3)
                          refine ⟨fun _ => KT.out _ T6.out.s (b6.mono Z0), ?_⟩
                          try simp only [Act.put, List.setIfInBounds_toArray, List.set_cons_zero, List.set_cons_succ]
                          refine wpAnyX_one (k := 12) (o := { dst := some 153, op := Go.Op.call { callee := Go.Callee.builtin Go.Builtin.append, args := #[Go.Operand.tmp 141, Go.Operand.tmp 152], argTypes := #[28, 28] }, type := 28, pos := "ref.go:390", after := #[{ on := 0, ground := Go.Ground.data }, { on := 11, ground := Go.Ground.data }, { on := 10, ground := Go.Ground.chain }], guard := none }) rfl (by kernel_rfl) (by rfl) ?_
                          refine wp_catR elemInts _ _ rfl wo.heap.size _ _ _ (by rfl) (O5.out.alloc _) _ _ _ _ _ (by rfl) (reads_new w5 #[.int .i64 (mv h.i.n y)] 3 1 1 rfl) (one_int1 _) (by omega) b6.size ?_
                          intro v' w7 ho hg
                          obtain ⟨Al', cl', rfl⟩ := own_shape ho
                          have b7 := b6.grown hg b6.size (fun q hq => ((O5.out.alloc (.cells #[.int .i64 (mv h.i.n y)] 3)).lt q hq).1)
                          have T7 := Lib.hid (HT.out.below b7)
                          have O7 : Hid (w7.ownsRow wo.heap.size 3 1 (.slice Al' (j + 1) cl') (j + 1) (intCells ((l.take (j + 1)).map (mv h.i.n)))) := Lib.hid (by rw [mv_snoc HY.out]; exact ho)
                          refine ⟨fun _ => KT.out _ T7.out.s (b7.mono Z0), ?_⟩
                          try simp only [Act.put, List.setIfInBounds_toArray, List.set_cons_zero, List.set_cons_succ]
                          refine wpAnyX_one (k := 13) (o := { dst := some 13, op := Go.Op.assign (Go.Operand.tmp 153), type := 28, pos := "ref.go:390", after := #[{ on := 12, ground := Go.Ground.data }, { on := 12, ground := Go.Ground.chain }, { on := 0, ground := Go.Ground.phase }, { on := 1, ground := Go.Ground.phase }, { on := 2, ground := Go.Ground.phase }, { on := 3, ground := Go.Ground.phase }, { on := 4, ground := Go.Ground.phase }, { on := 5, ground := Go.Ground.phase }, { on := 6, ground := Go.Ground.phase }, { on := 7, ground := Go.Ground.phase }, { on := 8, ground := Go.Ground.phase }, { on := 9, ground := Go.Ground.phase }, { on := 10, ground := Go.Ground.phase }, { on := 11, ground := Go.Ground.phase }, { on := 12, ground := Go.Ground.phase }], guard := none }) rfl (by kernel_rfl) (by rfl) ?_
                          refine op_assign rfl (by rfl) ?_
                          refine ⟨fun h => absurd rfl h, ?_⟩
                          try simp only [Act.put, List.setIfInBounds_toArray, List.set_cons_zero, List.set_cons_succ]
                          refine wpAnyX_done (by kernel_rfl) ?_ _
                          go_wp2
                          go_roundw
                          case rel => exact ⟨j + 1, _, _, by omega, rfl, by go_num, b7, O7.out⟩
                          case measure => simp [intOf]; omega
                        · obtain rfl : j = x.n := by omega
                          have HOF : Hid (wr.ownsRow wo.heap.size 3 1 (.slice Al x.n cl) (l.map (mv h.i.n)).length (intCells (l.map (mv h.i.n)))) := Lib.hid (by
                            have := HOL.out
                            rw [List.take_of_length_le (by have := HLN.out; omega)] at this
                            rw [List.length_map, ← HLN.out]
                            exact this)
                          have o4 : wr.cell? ⟨w.heap.size + 1 + 1 + 1, 3, none⟩ = some (.slice A (h.s.n + k) c) := cell_of_row _ (w.heap.size + 3) 3 _ _ _ HTI.out.j.o
                          have JI := Lib.hid (HJ.out.below HBL.out)
                          go_wp2_with (at_builtin; refine wpList_pushG elemSw rfl _ _ rfl (w.heap.size + 3) _ _ _ rfl HTI.out.j.r3 #[.slice Al x.n cl] _ rfl (by simp) rfl (one_sh ⟨Al, x.n, cl⟩) (by omega) (Nat.le_of_lt HTI.out.lt) ?_; intro v' w7 ho hg; obtain ⟨A', c', rfl⟩ := own_shape ho; have kc : w7.cell? ⟨w.heap.size + 1 + 1 + 1, 3, none⟩ = some (.slice A (h.s.n + k) c) := (HTI.out.keep3 hg).1; have kf : w7.frozen? ⟨w.heap.size + 1 + 1 + 1, 3, none⟩ = false := (HTI.out.keep3 hg).2; have T9 := Lib.hid (HTI.out.push3 (x' := (sh ++ [(⟨Al, x.n, cl⟩ : SH)]).map SH.v) (by rw [List.map_append]; exact ho) hg); have J9 := Lib.hid (jsw_push (Y := w.heap.size + 1) (z := ⟨Al, x.n, cl⟩) HTI.out.j JI.out ho hg (Nat.le_of_lt hz) (own_kept_ty HOF.out HTI.out.j.r3 (by decide) hg) (by rw [List.length_map]; exact HLN.out) (sw_snoc HLX.out)); clear ho hg)
                          go_roundw
                          case rel => exact ⟨k + 1, _, _, _, by omega, by go_num, T9.out, J9.out⟩
                          case measure => simp [intOf]; omega
                    · obtain rfl : k = g.s.n := by omega
                      have HJ0 : Hid (JSw (w.heap.size + 1) wr sh (a.switches ++ b.switches.map (List.map (mv h.i.n)))) := Lib.hid (by
                        have := HJ.out
                        rw [List.take_of_length_le (by have := HB.out.ns.1; omega)] at this
                        exact this)
                      go_wp2
                      clear q3
                      obtain ⟨A3, hA3⟩ : ∃ x, x = A := ⟨_, rfl⟩
                      obtain ⟨k3, hk3⟩ : ∃ x, x = c := ⟨_, rfl⟩
                      subst hA3
                      subst hk3
                      have TD := Lib.hid HT.out.drew
                      have KT : Hid (∀ W, SInv w.heap.size h g w W → W.cell? ⟨w.heap.size + 1 + 1 + 1, 4, none⟩ = some (.slice none 0 0) → (W.cell? ⟨w.heap.size + 1 + 1 + 1, 4, none⟩ = some (.slice none 0 0) ∧ W.cell? ⟨w.heap.size, 4, none⟩ = some (.slice h.g.a h.g.n h.g.c) ∧ W.cell? ⟨w.heap.size + 1, 4, none⟩ = some (.slice g.g.a g.g.n g.g.c))) := Lib.hid (fun W hS hO => ⟨hO, hS.x.c4, hS.d4⟩)
                      refine wp_region_X (by kernel_rfl) (fun w' => w'.cell? ⟨w.heap.size + 1 + 1 + 1, 4, none⟩ = some (.slice none 0 0) ∧ w'.cell? ⟨w.heap.size, 4, none⟩ = some (.slice h.g.a h.g.n h.g.c) ∧ w'.cell? ⟨w.heap.size + 1, 4, none⟩ = some (.slice g.g.a g.g.n g.g.c)) 9 ?_
                      have hHeld := KT.out _ TD.out.s (cell_of_row _ (w.heap.size + 3) 4 _ _ _ TD.out.j.o)
                      refine wpAnyX_take (i := 0) (oi := { dst := some 160, op := Go.Op.fieldAddr 30 (Go.Operand.tmp 5) 4, type := 0, pos := "ref.go:394", after := #[], guard := none }) (v := ?_) rfl (by kernel_rfl) (fun _ _ _ h => h) (by rfl) ?_ (by assumption) ?_
                      rotate_left
                      focus (intro w' hSw; (try dsimp only at hSw); go_simp; (try with_reducible rfl))
                      try simp only [Act.put, List.setIfInBounds_toArray, List.set_cons_zero, List.set_cons_succ]
                      refine wpAnyX_take (i := 1) (oi := { dst := some 161, op := Go.Op.load 26 (Go.Operand.tmp 160), type := 26, pos := "ref.go:394", after := #[{ on := 0, ground := Go.Ground.data }], guard := none }) (v := ?_) rfl (by kernel_rfl) (fun _ _ _ h => h) (by rfl) ?_ (by assumption) ?_
                      rotate_left
                      focus (intro w' hSw; (try dsimp only at hSw); go_simp; (try with_reducible rfl))
                      try simp only [Act.put, List.setIfInBounds_toArray, List.set_cons_zero, List.set_cons_succ]
                      refine wpAnyX_take (i := 2) (oi := { dst := some 162, op := Go.Op.fieldAddr 30 (Go.Operand.tmp 2) 4, type := 0, pos := "ref.go:394", after := #[], guard := none }) (v := ?_) rfl (by kernel_rfl) (fun _ _ _ h => h) (by rfl) ?_ (by assumption) ?_
                      rotate_left
                      focus (intro w' hSw; (try dsimp only at hSw); go_simp; (try with_reducible rfl))
                      try simp only [Act.put, List.setIfInBounds_toArray, List.set_cons_zero, List.set_cons_succ]
                      refine wpAnyX_take (i := 3) (oi := { dst := some 163, op := Go.Op.load 26 (Go.Operand.tmp 162), type := 26, pos := "ref.go:394", after := #[{ on := 2, ground := Go.Ground.data }], guard := none }) (v := ?_) rfl (by kernel_rfl) (fun _ _ _ h => h) (by rfl) ?_ (by assumption) ?_
                      rotate_left
                      focus (intro w' hSw; (try dsimp only at hSw); go_simp; (try with_reducible rfl))
                      try simp only [Act.put, List.setIfInBounds_toArray, List.set_cons_zero, List.set_cons_succ]
                      refine wpAnyX_take (i := 5) (oi := { dst := some 165, op := Go.Op.fieldAddr 30 (Go.Operand.tmp 3) 4, type := 0, pos := "ref.go:394", after := #[], guard := none }) (v := ?_) rfl (by kernel_rfl) (fun _ _ _ h => h) (by rfl) ?_ (by assumption) ?_
                      rotate_left
                      focus (intro w' hSw; (try dsimp only at hSw); go_simp; (try with_reducible rfl))
                      try simp only [Act.put, List.setIfInBounds_toArray, List.set_cons_zero, List.set_cons_succ]
                      refine wpAnyX_take (i := 6) (oi := { dst := some 166, op := Go.Op.load 26 (Go.Operand.tmp 165), type := 26, pos := "ref.go:394", after := #[{ on := 5, ground := Go.Ground.data }], guard := none }) (v := ?_) rfl (by kernel_rfl) (fun _ _ _ h => h) (by rfl) ?_ (by assumption) ?_
                      rotate_left
                      focus (intro w' hSw; (try dsimp only at hSw); go_simp; (try with_reducible rfl))
                      try simp only [Act.put, List.setIfInBounds_toArray, List.set_cons_zero, List.set_cons_succ]
                      refine wpAnyX_one (k := 4) (o := { dst := some 164, op := Go.Op.call { callee := Go.Callee.builtin Go.Builtin.append, args := #[Go.Operand.tmp 161, Go.Operand.tmp 163], argTypes := #[26, 26] }, type := 26, pos := "ref.go:394", after := #[{ on := 1, ground := Go.Ground.data }, { on := 3, ground := Go.Ground.data }], guard := none }) rfl (by kernel_rfl) (by rfl) ?_
                      refine wp_catR elemStrs _ _ rfl wr.heap.size _ _ _ (by rfl) (World.ownsRow_nil _ _ _ _) w.heap.size h.g.a h.g.n h.g.c _ (by rfl) (HA.out.g.below TD.out.s.x.b) (one_strs _) (by omega) (Nat.le_refl _) ?_
                      intro v' w5 ho hg
                      rw [Nat.zero_add, List.nil_append] at ho
                      have b5 : Below wr.heap.size wr w5 := ((Below.refl _ _).drew).grown hg (Nat.le_refl _) (fun q hq => by cases hq)
                      have T5 := Lib.hid (HT.out.below b5)
                      have O5 := Lib.hid ho
                      refine ⟨fun _ => KT.out _ T5.out.s (cell_of_row _ (w.heap.size + 3) 4 _ _ _ T5.out.j.o), ?_⟩
                      clear ho hg
                      try simp only [Act.put, List.setIfInBounds_toArray, List.set_cons_zero, List.set_cons_succ]
                      refine wpAnyX_one (k := 7) (o := { dst := some 167, op := Go.Op.call { callee := Go.Callee.builtin Go.Builtin.append, args := #[Go.Operand.tmp 164, Go.Operand.tmp 166], argTypes := #[26, 26] }, type := 26, pos := "ref.go:394", after := #[{ on := 4, ground := Go.Ground.data }, { on := 6, ground := Go.Ground.data }, { on := 4, ground := Go.Ground.chain }], guard := none }) rfl (by kernel_rfl) (by rfl) ?_
                      refine wp_catR elemStrs _ _ rfl wr.heap.size _ _ _ (by rfl) O5.out w.heap.size g.g.a g.g.n g.g.c _ (by rfl) (HB.out.g.below T5.out.s.x.b) (one_strs _) (by omega) b5.size ?_
                      intro v'' w6 ho hg
                      have b6 := b5.grown hg b5.size (fun q hq => (O5.out.lt q hq).1)
                      have T6 := Lib.hid (HT.out.below b6)
                      obtain ⟨A4, k4, rfl⟩ := own_shape ho
                      have O6 := Lib.hid (own_mono ho (Nat.le_of_lt HT.out.lt))
                      have kc : w6.cell? ⟨w.heap.size + 1 + 1 + 1, 4, none⟩ = some (.slice none 0 0) := (cell_of_row _ (w.heap.size + 3) 4 _ _ _ T6.out.j.o)
                      have kf : w6.frozen? ⟨w.heap.size + 1 + 1 + 1, 4, none⟩ = false := (T6.out.keep4 (grownBy_below' (Below.refl _ _))).2
                      have J6 := Lib.hid (HJ0.out.below b6)
                      refine ⟨fun _ => KT.out _ T6.out.s kc, ?_⟩
                      clear ho hg
                      try simp only [Act.put, List.setIfInBounds_toArray, List.set_cons_zero, List.set_cons_succ]
                      refine wpAnyX_one (k := 8) (o := { dst := some 168, op := Go.Op.fieldAddr 30 (Go.Operand.tmp 5) 4, type := 0, pos := "ref.go:394", after := #[{ on := 0, ground := Go.Ground.phase }, { on := 1, ground := Go.Ground.phase }, { on := 2, ground := Go.Ground.phase }, { on := 3, ground := Go.Ground.phase }, { on := 4, ground := Go.Ground.phase }, { on := 5, ground := Go.Ground.phase }, { on := 6, ground := Go.Ground.phase }, { on := 7, ground := Go.Ground.phase }], guard := none }) rfl (by kernel_rfl) (by rfl) ?_
                      refine op_fieldAddr rfl (by rfl) (by decide) ?_
                      refine ⟨fun _ => KT.out _ T6.out.s kc, ?_⟩
                      try simp only [Act.put, List.setIfInBounds_toArray, List.set_cons_zero, List.set_cons_succ]
                      refine wpAnyX_one (k := 9) (o := { dst := none, op := Go.Op.store 26 (Go.Operand.tmp 168) (Go.Operand.tmp 167), type := 0, pos := "ref.go:394", after := #[{ on := 8, ground := Go.Ground.data }, { on := 7, ground := Go.Ground.data }, { on := 7, ground := Go.Ground.chain }, { on := 0, ground := Go.Ground.phase }, { on := 1, ground := Go.Ground.phase }, { on := 2, ground := Go.Ground.phase }, { on := 3, ground := Go.Ground.phase }, { on := 4, ground := Go.Ground.phase }, { on := 5, ground := Go.Ground.phase }, { on := 6, ground := Go.Ground.phase }, { on := 7, ground := Go.Ground.phase }], guard := none }) rfl (by kernel_rfl) (by rfl) ?_
                      refine op_put26 rfl (by rfl) (by rfl) ⟨_, _, _, rfl⟩ kc kf ?_
                      refine ⟨fun h => absurd rfl h, ?_⟩
                      try simp only [Act.put]
                      refine wpAnyX_done (by kernel_rfl) ?_ _
                      have T9 := T6.out.push4 O6.out (grownBy_below' (Below.refl _ _))
                      have J9 := J6.out.map fun v n xs hh => own_setCell30 (j := 4) hh T6.out.j.o (by decide) (.slice A4 (h.g.n + g.g.n) k4)
                      change RJ w.heap.size h g w (w6.setCell ⟨w.heap.size + 1 + 1 + 1, 4, none⟩ (.slice A4 (h.g.n + g.g.n) k4)) _ _ _ _ _ _ _ _ _ _ _ _ _ _ _ _ _ _ _ _ _ at T9
                      change JSw (w.heap.size + 1) (w6.setCell ⟨w.heap.size + 1 + 1 + 1, 4, none⟩ (.slice A4 (h.g.n + g.g.n) k4)) _ _ at J9
                      clear KT T6 J6 O5 O6 T5 TD kc kf b5 b6 hHeld
                      generalize w6.setCell ⟨w.heap.size + 1 + 1 + 1, 4, none⟩ (.slice A4 (h.g.n + g.g.n) k4) = W4 at T9 J9 ⊢
                      have R4 := Lib.hid T9
                      have K4 := Lib.hid J9
                      clear T9 J9
                      go_wp2
                      have TD := Lib.hid R4.out.drew
                      have KT : Hid (∀ W, SInv w.heap.size h g w W → W.cell? ⟨w.heap.size + 1 + 1 + 1, 5, none⟩ = some (.slice none 0 0) → (W.cell? ⟨w.heap.size + 1 + 1 + 1, 5, none⟩ = some (.slice none 0 0) ∧ W.cell? ⟨w.heap.size, 5, none⟩ = some (.slice h.r.a h.r.n h.r.c) ∧ W.cell? ⟨w.heap.size + 1, 5, none⟩ = some (.slice g.r.a g.r.n g.r.c))) := Lib.hid (fun W hS hO => ⟨hO, hS.x.c5, hS.d5⟩)
                      refine wp_region_X (by kernel_rfl) (fun w' => w'.cell? ⟨w.heap.size + 1 + 1 + 1, 5, none⟩ = some (.slice none 0 0) ∧ w'.cell? ⟨w.heap.size, 5, none⟩ = some (.slice h.r.a h.r.n h.r.c) ∧ w'.cell? ⟨w.heap.size + 1, 5, none⟩ = some (.slice g.r.a g.r.n g.r.c)) 9 ?_
                      have hHeld := KT.out _ TD.out.s (cell_of_row _ (w.heap.size + 3) 5 _ _ _ TD.out.j.o)
                      refine wpAnyX_take (i := 0) (oi := { dst := some 169, op := Go.Op.fieldAddr 30 (Go.Operand.tmp 5) 5, type := 0, pos := "ref.go:395", after := #[], guard := none }) (v := ?_) rfl (by kernel_rfl) (fun _ _ _ h => h) (by rfl) ?_ (by assumption) ?_
                      rotate_left
                      focus (intro w' hSw; (try dsimp only at hSw); go_simp; (try with_reducible rfl))
                      try simp only [Act.put, List.setIfInBounds_toArray, List.set_cons_zero, List.set_cons_succ]
                      refine wpAnyX_take (i := 1) (oi := { dst := some 170, op := Go.Op.load 27 (Go.Operand.tmp 169), type := 27, pos := "ref.go:395", after := #[{ on := 0, ground := Go.Ground.data }], guard := none }) (v := ?_) rfl (by kernel_rfl) (fun _ _ _ h => h) (by rfl) ?_ (by assumption) ?_
                      rotate_left
                      focus (intro w' hSw; (try dsimp only at hSw); go_simp; (try with_reducible rfl))
                      try simp only [Act.put, List.setIfInBounds_toArray, List.set_cons_zero, List.set_cons_succ]
                      refine wpAnyX_take (i := 2) (oi := { dst := some 171, op := Go.Op.fieldAddr 30 (Go.Operand.tmp 2) 5, type := 0, pos := "ref.go:395", after := #[], guard := none }) (v := ?_) rfl (by kernel_rfl) (fun _ _ _ h => h) (by rfl) ?_ (by assumption) ?_
                      rotate_left
                      focus (intro w' hSw; (try dsimp only at hSw); go_simp; (try with_reducible rfl))
                      try simp only [Act.put, List.setIfInBounds_toArray, List.set_cons_zero, List.set_cons_succ]
                      refine wpAnyX_take (i := 3) (oi := { dst := some 172, op := Go.Op.load 27 (Go.Operand.tmp 171), type := 27, pos := "ref.go:395", after := #[{ on := 2, ground := Go.Ground.data }], guard := none }) (v := ?_) rfl (by kernel_rfl) (fun _ _ _ h => h) (by rfl) ?_ (by assumption) ?_
                      rotate_left
                      focus (intro w' hSw; (try dsimp only at hSw); go_simp; (try with_reducible rfl))
                      try simp only [Act.put, List.setIfInBounds_toArray, List.set_cons_zero, List.set_cons_succ]
                      refine wpAnyX_take (i := 5) (oi := { dst := some 174, op := Go.Op.fieldAddr 30 (Go.Operand.tmp 3) 5, type := 0, pos := "ref.go:395", after := #[], guard := none }) (v := ?_) rfl (by kernel_rfl) (fun _ _ _ h => h) (by rfl) ?_ (by assumption) ?_
                      rotate_left
                      focus (intro w' hSw; (try dsimp only at hSw); go_simp; (try with_reducible rfl))
                      try simp only [Act.put, List.setIfInBounds_toArray, List.set_cons_zero, List.set_cons_succ]
                      refine wpAnyX_take (i := 6) (oi := { dst := some 175, op := Go.Op.load 27 (Go.Operand.tmp 174), type := 27, pos := "ref.go:395", after := #[{ on := 5, ground := Go.Ground.data }], guard := none }) (v := ?_) rfl (by kernel_rfl) (fun _ _ _ h => h) (by rfl) ?_ (by assumption) ?_
                      rotate_left
                      focus (intro w' hSw; (try dsimp only at hSw); go_simp; (try with_reducible rfl))
                      try simp only [Act.put, List.setIfInBounds_toArray, List.set_cons_zero, List.set_cons_succ]
                      refine wpAnyX_one (k := 4) (o := { dst := some 173, op := Go.Op.call { callee := Go.Callee.builtin Go.Builtin.append, args := #[Go.Operand.tmp 170, Go.Operand.tmp 172], argTypes := #[27, 27] }, type := 27, pos := "ref.go:395", after := #[{ on := 1, ground := Go.Ground.data }, { on := 3, ground := Go.Ground.data }], guard := none }) rfl (by kernel_rfl) (by rfl) ?_
                      refine wp_catR elemReal _ _ rfl W4.heap.size _ _ _ (by rfl) (World.ownsRow_nil _ _ _ _) w.heap.size h.r.a h.r.n h.r.c _ (by rfl) (HA.out.r.below TD.out.s.x.b) (one_real _) (by omega) (Nat.le_refl _) ?_
                      intro v' w5 ho hg
                      rw [Nat.zero_add, List.nil_append] at ho
                      have b5 : Below W4.heap.size W4 w5 := ((Below.refl _ _).drew).grown hg (Nat.le_refl _) (fun q hq => by cases hq)
                      have T5 := Lib.hid (R4.out.below b5)
                      have O5 := Lib.hid ho
                      refine ⟨fun _ => KT.out _ T5.out.s (cell_of_row _ (w.heap.size + 3) 5 _ _ _ T5.out.j.o), ?_⟩
                      clear ho hg
                      try simp only [Act.put, List.setIfInBounds_toArray, List.set_cons_zero, List.set_cons_succ]
                      refine wpAnyX_one (k := 7) (o := { dst := some 176, op := Go.Op.call { callee := Go.Callee.builtin Go.Builtin.append, args := #[Go.Operand.tmp 173, Go.Operand.tmp 175], argTypes := #[27, 27] }, type := 27, pos := "ref.go:395", after := #[{ on := 4, ground := Go.Ground.data }, { on := 6, ground := Go.Ground.data }, { on := 4, ground := Go.Ground.chain }], guard := none }) rfl (by kernel_rfl) (by rfl) ?_
                      refine wp_catR elemReal _ _ rfl W4.heap.size _ _ _ (by rfl) O5.out w.heap.size g.r.a g.r.n g.r.c _ (by rfl) (HB.out.r.below T5.out.s.x.b) (one_real _) (by omega) b5.size ?_
                      intro v'' w6 ho hg
                      have b6 := b5.grown hg b5.size (fun q hq => (O5.out.lt q hq).1)
                      have T6 := Lib.hid (R4.out.below b6)
                      obtain ⟨A5, k5, rfl⟩ := own_shape ho
                      have O6 := Lib.hid (own_mono ho (Nat.le_of_lt R4.out.lt))
                      have kc : w6.cell? ⟨w.heap.size + 1 + 1 + 1, 5, none⟩ = some (.slice none 0 0) := (cell_of_row _ (w.heap.size + 3) 5 _ _ _ T6.out.j.o)
                      have kf : w6.frozen? ⟨w.heap.size + 1 + 1 + 1, 5, none⟩ = false := (T6.out.keep5 (grownBy_below' (Below.refl _ _))).2
                      have J6 := Lib.hid (K4.out.below b6)
                      refine ⟨fun _ => KT.out _ T6.out.s kc, ?_⟩
                      clear ho hg
                      try simp only [Act.put, List.setIfInBounds_toArray, List.set_cons_zero, List.set_cons_succ]
                      refine wpAnyX_one (k := 8) (o := { dst := some 177, op := Go.Op.fieldAddr 30 (Go.Operand.tmp 5) 5, type := 0, pos := "ref.go:395", after := #[{ on := 0, ground := Go.Ground.phase }, { on := 1, ground := Go.Ground.phase }, { on := 2, ground := Go.Ground.phase }, { on := 3, ground := Go.Ground.phase }, { on := 4, ground := Go.Ground.phase }, { on := 5, ground := Go.Ground.phase }, { on := 6, ground := Go.Ground.phase }, { on := 7, ground := Go.Ground.phase }], guard := none }) rfl (by kernel_rfl) (by rfl) ?_
                      refine op_fieldAddr rfl (by rfl) (by decide) ?_
                      refine ⟨fun _ => KT.out _ T6.out.s kc, ?_⟩
                      try simp only [Act.put, List.setIfInBounds_toArray, List.set_cons_zero, List.set_cons_succ]
                      refine wpAnyX_one (k := 9) (o := { dst := none, op := Go.Op.store 27 (Go.Operand.tmp 177) (Go.Operand.tmp 176), type := 0, pos := "ref.go:395", after := #[{ on := 8, ground := Go.Ground.data }, { on := 7, ground := Go.Ground.data }, { on := 7, ground := Go.Ground.chain }, { on := 0, ground := Go.Ground.phase }, { on := 1, ground := Go.Ground.phase }, { on := 2, ground := Go.Ground.phase }, { on := 3, ground := Go.Ground.phase }, { on := 4, ground := Go.Ground.phase }, { on := 5, ground := Go.Ground.phase }, { on := 6, ground := Go.Ground.phase }, { on := 7, ground := Go.Ground.phase }], guard := none }) rfl (by kernel_rfl) (by rfl) ?_
                      refine op_put27 rfl (by rfl) (by rfl) ⟨_, _, _, rfl⟩ kc kf ?_
                      refine ⟨fun h => absurd rfl h, ?_⟩
                      try simp only [Act.put]
                      refine wpAnyX_done (by kernel_rfl) ?_ _
                      have T9 := T6.out.push5 O6.out (grownBy_below' (Below.refl _ _))
                      have J9 := J6.out.map fun v n xs hh => own_setCell30 (j := 5) hh T6.out.j.o (by decide) (.slice A5 (h.r.n + g.r.n) k5)
                      change RJ w.heap.size h g w (w6.setCell ⟨w.heap.size + 1 + 1 + 1, 5, none⟩ (.slice A5 (h.r.n + g.r.n) k5)) _ _ _ _ _ _ _ _ _ _ _ _ _ _ _ _ _ _ _ _ _ at T9
                      change JSw (w.heap.size + 1) (w6.setCell ⟨w.heap.size + 1 + 1 + 1, 5, none⟩ (.slice A5 (h.r.n + g.r.n) k5)) _ _ at J9
                      clear KT T6 J6 O5 O6 T5 TD kc kf b5 b6 hHeld
                      generalize w6.setCell ⟨w.heap.size + 1 + 1 + 1, 5, none⟩ (.slice A5 (h.r.n + g.r.n) k5) = W5 at T9 J9 ⊢
                      have R5 := Lib.hid T9
                      have K5 := Lib.hid J9
                      clear T9 J9
                      go_wp2
                      have TD := Lib.hid R5.out.drew
                      have KT : Hid (∀ W, SInv w.heap.size h g w W → W.cell? ⟨w.heap.size + 1 + 1 + 1, 6, none⟩ = some (.slice none 0 0) → (W.cell? ⟨w.heap.size + 1 + 1 + 1, 6, none⟩ = some (.slice none 0 0) ∧ W.cell? ⟨w.heap.size, 6, none⟩ = some (.slice h.o.a h.o.n h.o.c) ∧ W.cell? ⟨w.heap.size + 1, 6, none⟩ = some (.slice g.o.a g.o.n g.o.c))) := Lib.hid (fun W hS hO => ⟨hO, hS.x.c6, hS.d6⟩)
                      refine wp_region_X (by kernel_rfl) (fun w' => w'.cell? ⟨w.heap.size + 1 + 1 + 1, 6, none⟩ = some (.slice none 0 0) ∧ w'.cell? ⟨w.heap.size, 6, none⟩ = some (.slice h.o.a h.o.n h.o.c) ∧ w'.cell? ⟨w.heap.size + 1, 6, none⟩ = some (.slice g.o.a g.o.n g.o.c)) 9 ?_
                      have hHeld := KT.out _ TD.out.s (cell_of_row _ (w.heap.size + 3) 6 _ _ _ TD.out.j.o)
                      refine wpAnyX_take (i := 0) (oi := { dst := some 178, op := Go.Op.fieldAddr 30 (Go.Operand.tmp 5) 6, type := 0, pos := "ref.go:396", after := #[], guard := none }) (v := ?_) rfl (by kernel_rfl) (fun _ _ _ h => h) (by rfl) ?_ (by assumption) ?_
                      rotate_left
                      focus (intro w' hSw; (try dsimp only at hSw); go_simp; (try with_reducible rfl))
                      try simp only [Act.put, List.setIfInBounds_toArray, List.set_cons_zero, List.set_cons_succ]
                      refine wpAnyX_take (i := 1) (oi := { dst := some 179, op := Go.Op.load 28 (Go.Operand.tmp 178), type := 28, pos := "ref.go:396", after := #[{ on := 0, ground := Go.Ground.data }], guard := none }) (v := ?_) rfl (by kernel_rfl) (fun _ _ _ h => h) (by rfl) ?_ (by assumption) ?_
                      rotate_left
                      focus (intro w' hSw; (try dsimp only at hSw); go_simp; (try with_reducible rfl))
                      try simp only [Act.put, List.setIfInBounds_toArray, List.set_cons_zero, List.set_cons_succ]
                      refine wpAnyX_take (i := 2) (oi := { dst := some 180, op := Go.Op.fieldAddr 30 (Go.Operand.tmp 2) 6, type := 0, pos := "ref.go:396", after := #[], guard := none }) (v := ?_) rfl (by kernel_rfl) (fun _ _ _ h => h) (by rfl) ?_ (by assumption) ?_
                      rotate_left
                      focus (intro w' hSw; (try dsimp only at hSw); go_simp; (try with_reducible rfl))
                      try simp only [Act.put, List.setIfInBounds_toArray, List.set_cons_zero, List.set_cons_succ]
                      refine wpAnyX_take (i := 3) (oi := { dst := some 181, op := Go.Op.load 28 (Go.Operand.tmp 180), type := 28, pos := "ref.go:396", after := #[{ on := 2, ground := Go.Ground.data }], guard := none }) (v := ?_) rfl (by kernel_rfl) (fun _ _ _ h => h) (by rfl) ?_ (by assumption) ?_
                      rotate_left
                      focus (intro w' hSw; (try dsimp only at hSw); go_simp; (try with_reducible rfl))
                      try simp only [Act.put, List.setIfInBounds_toArray, List.set_cons_zero, List.set_cons_succ]
                      refine wpAnyX_take (i := 5) (oi := { dst := some 183, op := Go.Op.fieldAddr 30 (Go.Operand.tmp 3) 6, type := 0, pos := "ref.go:396", after := #[], guard := none }) (v := ?_) rfl (by kernel_rfl) (fun _ _ _ h => h) (by rfl) ?_ (by assumption) ?_
                      rotate_left
                      focus (intro w' hSw; (try dsimp only at hSw); go_simp; (try with_reducible rfl))
                      try simp only [Act.put, List.setIfInBounds_toArray, List.set_cons_zero, List.set_cons_succ]
                      refine wpAnyX_take (i := 6) (oi := { dst := some 184, op := Go.Op.load 28 (Go.Operand.tmp 183), type := 28, pos := "ref.go:396", after := #[{ on := 5, ground := Go.Ground.data }], guard := none }) (v := ?_) rfl (by kernel_rfl) (fun _ _ _ h => h) (by rfl) ?_ (by assumption) ?_
                      rotate_left
                      focus (intro w' hSw; (try dsimp only at hSw); go_simp; (try with_reducible rfl))
                      try simp only [Act.put, List.setIfInBounds_toArray, List.set_cons_zero, List.set_cons_succ]
                      refine wpAnyX_one (k := 4) (o := { dst := some 182, op := Go.Op.call { callee := Go.Callee.builtin Go.Builtin.append, args := #[Go.Operand.tmp 179, Go.Operand.tmp 181], argTypes := #[28, 28] }, type := 28, pos := "ref.go:396", after := #[{ on := 1, ground := Go.Ground.data }, { on := 3, ground := Go.Ground.data }], guard := none }) rfl (by kernel_rfl) (by rfl) ?_
                      refine wp_catR elemInts _ _ rfl W5.heap.size _ _ _ (by rfl) (World.ownsRow_nil _ _ _ _) w.heap.size h.o.a h.o.n h.o.c _ (by rfl) (HA.out.o.below TD.out.s.x.b) (one_ints _) (by omega) (Nat.le_refl _) ?_
                      intro v' w5 ho hg
                      rw [Nat.zero_add, List.nil_append] at ho
                      have b5 : Below W5.heap.size W5 w5 := ((Below.refl _ _).drew).grown hg (Nat.le_refl _) (fun q hq => by cases hq)
                      have T5 := Lib.hid (R5.out.below b5)
                      have O5 := Lib.hid ho
                      refine ⟨fun _ => KT.out _ T5.out.s (cell_of_row _ (w.heap.size + 3) 6 _ _ _ T5.out.j.o), ?_⟩
                      clear ho hg
                      try simp only [Act.put, List.setIfInBounds_toArray, List.set_cons_zero, List.set_cons_succ]
                      refine wpAnyX_one (k := 7) (o := { dst := some 185, op := Go.Op.call { callee := Go.Callee.builtin Go.Builtin.append, args := #[Go.Operand.tmp 182, Go.Operand.tmp 184], argTypes := #[28, 28] }, type := 28, pos := "ref.go:396", after := #[{ on := 4, ground := Go.Ground.data }, { on := 6, ground := Go.Ground.data }, { on := 4, ground := Go.Ground.chain }], guard := none }) rfl (by kernel_rfl) (by rfl) ?_
                      refine wp_catR elemInts _ _ rfl W5.heap.size _ _ _ (by rfl) O5.out w.heap.size g.o.a g.o.n g.o.c _ (by rfl) (HB.out.o.below T5.out.s.x.b) (one_ints _) (by omega) b5.size ?_
                      intro v'' w6 ho hg
                      have b6 := b5.grown hg b5.size (fun q hq => (O5.out.lt q hq).1)
                      have T6 := Lib.hid (R5.out.below b6)
                      obtain ⟨A6, k6, rfl⟩ := own_shape ho
                      have O6 := Lib.hid (own_mono ho (Nat.le_of_lt R5.out.lt))
                      have kc : w6.cell? ⟨w.heap.size + 1 + 1 + 1, 6, none⟩ = some (.slice none 0 0) := (cell_of_row _ (w.heap.size + 3) 6 _ _ _ T6.out.j.o)
                      have kf : w6.frozen? ⟨w.heap.size + 1 + 1 + 1, 6, none⟩ = false := (T6.out.keep6 (grownBy_below' (Below.refl _ _))).2
                      have J6 := Lib.hid (K5.out.below b6)
                      refine ⟨fun _ => KT.out _ T6.out.s kc, ?_⟩
                      clear ho hg
                      try simp only [Act.put, List.setIfInBounds_toArray, List.set_cons_zero, List.set_cons_succ]
                      refine wpAnyX_one (k := 8) (o := { dst := some 186, op := Go.Op.fieldAddr 30 (Go.Operand.tmp 5) 6, type := 0, pos := "ref.go:396", after := #[{ on := 0, ground := Go.Ground.phase }, { on := 1, ground := Go.Ground.phase }, { on := 2, ground := Go.Ground.phase }, { on := 3, ground := Go.Ground.phase }, { on := 4, ground := Go.Ground.phase }, { on := 5, ground := Go.Ground.phase }, { on := 6, ground := Go.Ground.phase }, { on := 7, ground := Go.Ground.phase }], guard := none }) rfl (by kernel_rfl) (by rfl) ?_
                      refine op_fieldAddr rfl (by rfl) (by decide) ?_
                      refine ⟨fun _ => KT.out _ T6.out.s kc, ?_⟩
                      try simp only [Act.put, List.setIfInBounds_toArray, List.set_cons_zero, List.set_cons_succ]
                      refine wpAnyX_one (k := 9) (o := { dst := none, op := Go.Op.store 28 (Go.Operand.tmp 186) (Go.Operand.tmp 185), type := 0, pos := "ref.go:396", after := #[{ on := 8, ground := Go.Ground.data }, { on := 7, ground := Go.Ground.data }, { on := 7, ground := Go.Ground.chain }, { on := 0, ground := Go.Ground.phase }, { on := 1, ground := Go.Ground.phase }, { on := 2, ground := Go.Ground.phase }, { on := 3, ground := Go.Ground.phase }, { on := 4, ground := Go.Ground.phase }, { on := 5, ground := Go.Ground.phase }, { on := 6, ground := Go.Ground.phase }, { on := 7, ground := Go.Ground.phase }], guard := none }) rfl (by kernel_rfl) (by rfl) ?_
                      refine op_put28 rfl (by rfl) (by rfl) ⟨_, _, _, rfl⟩ kc kf ?_
                      refine ⟨fun h => absurd rfl h, ?_⟩
                      try simp only [Act.put]
                      refine wpAnyX_done (by kernel_rfl) ?_ _
                      have T9 := T6.out.push6 O6.out (grownBy_below' (Below.refl _ _))
                      have J9 := J6.out.map fun v n xs hh => own_setCell30 (j := 6) hh T6.out.j.o (by decide) (.slice A6 (h.o.n + g.o.n) k6)
                      change RJ w.heap.size h g w (w6.setCell ⟨w.heap.size + 1 + 1 + 1, 6, none⟩ (.slice A6 (h.o.n + g.o.n) k6)) _ _ _ _ _ _ _ _ _ _ _ _ _ _ _ _ _ _ _ _ _ at T9
                      change JSw (w.heap.size + 1) (w6.setCell ⟨w.heap.size + 1 + 1 + 1, 6, none⟩ (.slice A6 (h.o.n + g.o.n) k6)) _ _ at J9
                      clear KT T6 J6 O5 O6 T5 TD kc kf b5 b6 hHeld
                      generalize w6.setCell ⟨w.heap.size + 1 + 1 + 1, 6, none⟩ (.slice A6 (h.o.n + g.o.n) k6) = W6 at T9 J9 ⊢
                      have R6 := Lib.hid T9
                      have K6 := Lib.hid J9
                      clear T9 J9
                      have HC : Hid (CodeAt W6 W6.heap.size ⟨⟨A0, h.i.n + g.i.n, k0⟩, ⟨A1, h.p.n + g.p.n, k1⟩, ⟨A2, h.t.n + g.t.n, k2⟩, ⟨A3, h.s.n + g.s.n, k3⟩, ⟨A4, h.g.n + g.g.n, k4⟩, ⟨A5, h.r.n + g.r.n, k5⟩, ⟨A6, h.o.n + g.o.n, k6⟩⟩ (joinD h a b)) := Lib.hid (rjoined_at (N := w.heap.size) (z0 := ⟨A0, _, k0⟩) (z1 := ⟨A1, _, k1⟩) (z2 := ⟨A2, _, k2⟩) (z3 := ⟨A3, _, k3⟩) (z4 := ⟨A4, _, k4⟩) (z5 := ⟨A5, _, k5⟩) (z6 := ⟨A6, _, k6⟩) R6.out.j K6.out HA.out HB.out HFA.out HFB.out ⟨rfl, rfl, rfl, rfl, rfl, rfl, rfl⟩)
                      have HFJ : Hid (fineB (joinD h a b) (largeB ⟨⟨A0, h.i.n + g.i.n, k0⟩, ⟨A1, h.p.n + g.p.n, k1⟩, ⟨A2, h.t.n + g.t.n, k2⟩, ⟨A3, h.s.n + g.s.n, k3⟩, ⟨A4, h.g.n + g.g.n, k4⟩, ⟨A5, h.r.n + g.r.n, k5⟩, ⟨A6, h.o.n + g.o.n, k6⟩⟩) = true) := Lib.hid (by
                        rw [largeD_of HC.out, HLJ.out]
                        exact well_fine (well_join HA.out.lens (fine_well HFA.out).2 HWB.out))
                      have o0 : W6.cell? ⟨w.heap.size + 1 + 1 + 1, 0, none⟩ = some (.slice A0 (h.i.n + g.i.n) k0) := cell_of_row _ (w.heap.size + 3) 0 _ _ _ R6.out.j.o; have o1 : W6.cell? ⟨w.heap.size + 1 + 1 + 1, 1, none⟩ = some (.slice A1 (h.p.n + g.p.n) k1) := cell_of_row _ (w.heap.size + 3) 1 _ _ _ R6.out.j.o; have o2 : W6.cell? ⟨w.heap.size + 1 + 1 + 1, 2, none⟩ = some (.slice A2 (h.t.n + g.t.n) k2) := cell_of_row _ (w.heap.size + 3) 2 _ _ _ R6.out.j.o; have o3 : W6.cell? ⟨w.heap.size + 1 + 1 + 1, 3, none⟩ = some (.slice A3 (h.s.n + g.s.n) k3) := cell_of_row _ (w.heap.size + 3) 3 _ _ _ R6.out.j.o; have o4 : W6.cell? ⟨w.heap.size + 1 + 1 + 1, 4, none⟩ = some (.slice A4 (h.g.n + g.g.n) k4) := cell_of_row _ (w.heap.size + 3) 4 _ _ _ R6.out.j.o; have o5 : W6.cell? ⟨w.heap.size + 1 + 1 + 1, 5, none⟩ = some (.slice A5 (h.r.n + g.r.n) k5) := cell_of_row _ (w.heap.size + 3) 5 _ _ _ R6.out.j.o; have o6 : W6.cell? ⟨w.heap.size + 1 + 1 + 1, 6, none⟩ = some (.slice A6 (h.o.n + g.o.n) k6) := cell_of_row _ (w.heap.size + 3) 6 _ _ _ R6.out.j.o
                      go_wp2_with (go_at_call 19; refine (rValid_any ⟨⟨A0, h.i.n + g.i.n, k0⟩, ⟨A1, h.p.n + g.p.n, k1⟩, ⟨A2, h.t.n + g.t.n, k2⟩, ⟨A3, h.s.n + g.s.n, k3⟩, ⟨A4, h.g.n + g.g.n, k4⟩, ⟨A5, h.r.n + g.r.n, k5⟩, ⟨A6, h.o.n + g.o.n, k6⟩⟩ (joinD h a b) _ HC.out).mono ?_; rintro e w20 ⟨rfl, hb⟩; have R20 := Lib.hid (R6.out.below hb); have K20 := Lib.hid (K6.out.below hb); rw [HFJ.out]; clear hb o0 o1 o2 o3 o4 o5 o6; have o0 : w20.cell? ⟨w.heap.size + 1 + 1 + 1, 0, none⟩ = some (.slice A0 (h.i.n + g.i.n) k0) := cell_of_row _ (w.heap.size + 3) 0 _ _ _ R20.out.j.o; have o1 : w20.cell? ⟨w.heap.size + 1 + 1 + 1, 1, none⟩ = some (.slice A1 (h.p.n + g.p.n) k1) := cell_of_row _ (w.heap.size + 3) 1 _ _ _ R20.out.j.o; have o2 : w20.cell? ⟨w.heap.size + 1 + 1 + 1, 2, none⟩ = some (.slice A2 (h.t.n + g.t.n) k2) := cell_of_row _ (w.heap.size + 3) 2 _ _ _ R20.out.j.o; have o3 : w20.cell? ⟨w.heap.size + 1 + 1 + 1, 3, none⟩ = some (.slice A3 (h.s.n + g.s.n) k3) := cell_of_row _ (w.heap.size + 3) 3 _ _ _ R20.out.j.o; have o4 : w20.cell? ⟨w.heap.size + 1 + 1 + 1, 4, none⟩ = some (.slice A4 (h.g.n + g.g.n) k4) := cell_of_row _ (w.heap.size + 3) 4 _ _ _ R20.out.j.o; have o5 : w20.cell? ⟨w.heap.size + 1 + 1 + 1, 5, none⟩ = some (.slice A5 (h.r.n + g.r.n) k5) := cell_of_row _ (w.heap.size + 3) 5 _ _ _ R20.out.j.o; have o6 : w20.cell? ⟨w.heap.size + 1 + 1 + 1, 6, none⟩ = some (.slice A6 (h.o.n + g.o.n) k6) := cell_of_row _ (w.heap.size + 3) 6 _ _ _ R20.out.j.o; have r0 : w20.cell? ⟨w.heap.size + 1 + 1, 0, none⟩ = some (.slice none 0 0) := cell_of_row _ (w.heap.size + 2) 0 _ _ _ R20.out.r; have r1 : w20.cell? ⟨w.heap.size + 1 + 1, 1, none⟩ = some (.slice none 0 0) := cell_of_row _ (w.heap.size + 2) 1 _ _ _ R20.out.r; have r2 : w20.cell? ⟨w.heap.size + 1 + 1, 2, none⟩ = some (.slice none 0 0) := cell_of_row _ (w.heap.size + 2) 2 _ _ _ R20.out.r; have r3 : w20.cell? ⟨w.heap.size + 1 + 1, 3, none⟩ = some (.slice none 0 0) := cell_of_row _ (w.heap.size + 2) 3 _ _ _ R20.out.r; have r4 : w20.cell? ⟨w.heap.size + 1 + 1, 4, none⟩ = some (.slice none 0 0) := cell_of_row _ (w.heap.size + 2) 4 _ _ _ R20.out.r; have r5 : w20.cell? ⟨w.heap.size + 1 + 1, 5, none⟩ = some (.slice none 0 0) := cell_of_row _ (w.heap.size + 2) 5 _ _ _ R20.out.r; have r6 : w20.cell? ⟨w.heap.size + 1 + 1, 6, none⟩ = some (.slice none 0 0) := cell_of_row _ (w.heap.size + 2) 6 _ _ _ R20.out.r; have r7 : w20.cell? ⟨w.heap.size + 1 + 1, 7, none⟩ = some (.int .i64 0) := cell_of_row _ (w.heap.size + 2) 7 _ _ _ R20.out.r; have rf : ∀ j, w20.frozen? ⟨w.heap.size + 1 + 1, j, none⟩ = false := (fun j => by have := R20.out.r; simp [World.frozen?, this]))
                      have JF := Lib.hid (((((((((show JR w.heap.size w20 _ _ _ _ _ _ _ _ _ _ _ _ _ _ _ _ _ _ _ _ _ _ _ from ⟨R20.out.j, K20.out, _, R20.out.r⟩).set 0 (.slice A0 (h.i.n + g.i.n) k0)).set 1 (.slice A1 (h.p.n + g.p.n) k1)).set 2 (.slice A2 (h.t.n + g.t.n) k2)).set 3 (.slice A3 (h.s.n + g.s.n) k3)).set 4 (.slice A4 (h.g.n + g.g.n) k4)).set 5 (.slice A5 (h.r.n + g.r.n) k5)).set 6 (.slice A6 (h.o.n + g.o.n) k6)).set 7 (.int .i64 0))
                      have WF := rjoined_at (N := w.heap.size) (z0 := ⟨A0, _, k0⟩) (z1 := ⟨A1, _, k1⟩) (z2 := ⟨A2, _, k2⟩) (z3 := ⟨A3, _, k3⟩) (z4 := ⟨A4, _, k4⟩) (z5 := ⟨A5, _, k5⟩) (z6 := ⟨A6, _, k6⟩) JF.out.1 JF.out.2.1 HA.out HB.out HFA.out HFB.out ⟨rfl, rfl, rfl, rfl, rfl, rfl, rfl⟩
                      have zN : w.heap.size ≤ w.heap.size + 2 := by omega
                      have zb := ((((((((R20.out.s.x.b.setCell (p := ⟨w.heap.size + 2, 0, none⟩) zN (.slice A0 (h.i.n + g.i.n) k0)).setCell (p := ⟨w.heap.size + 2, 1, none⟩) zN (.slice A1 (h.p.n + g.p.n) k1)).setCell (p := ⟨w.heap.size + 2, 2, none⟩) zN (.slice A2 (h.t.n + g.t.n) k2)).setCell (p := ⟨w.heap.size + 2, 3, none⟩) zN (.slice A3 (h.s.n + g.s.n) k3)).setCell (p := ⟨w.heap.size + 2, 4, none⟩) zN (.slice A4 (h.g.n + g.g.n) k4)).setCell (p := ⟨w.heap.size + 2, 5, none⟩) zN (.slice A5 (h.r.n + g.r.n) k5)).setCell (p := ⟨w.heap.size + 2, 6, none⟩) zN (.slice A6 (h.o.n + g.o.n) k6)).setCell (p := ⟨w.heap.size + 2, 7, none⟩) zN (.int .i64 0))
                      exact bodyPost_ret (v := .agg #[.slice A0 (h.i.n + g.i.n) k0, .slice A1 (h.p.n + g.p.n) k1, .slice A2 (h.t.n + g.t.n) k2, .slice A3 (h.s.n + g.s.n) k3, .slice A4 (h.g.n + g.g.n) k4, .slice A5 (h.r.n + g.r.n) k5, .slice A6 (h.o.n + g.o.n) k6, .int .i64 0]) (by simp [results, Tryz.results20, go_sem, r0, r1, r2, r3, r4, r5, r6, r7]) rfl ⟨⟨⟨A0, h.i.n + g.i.n, k0⟩, ⟨A1, h.p.n + g.p.n, k1⟩, ⟨A2, h.t.n + g.t.n, k2⟩, ⟨A3, h.s.n + g.s.n, k3⟩, ⟨A4, h.g.n + g.g.n, k4⟩, ⟨A5, h.r.n + g.r.n, k5⟩, ⟨A6, h.o.n + g.o.n, k6⟩⟩, rfl, WF, zb⟩
end Go.Proofs.YtmfnholhhakgaaaGreatDoor
