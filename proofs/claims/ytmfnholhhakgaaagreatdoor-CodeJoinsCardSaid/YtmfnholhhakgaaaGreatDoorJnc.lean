/- code.Join: it joins two codes that Check takes. -/
import Derived.Test.YtmfnholhhakgaaaGreatDoorMhl
namespace Go.Proofs.YtmfnholhhakgaaaGreatDoor
open Go Go.Proofs Go.RowKit Go.Sort
open Classical
theorem enters58 : Enters 58 := enters_of Tryz.func58 (by kernel_rfl) rfl
theorem enters59 : Enters 59 := enters_of Tryz.func59 (by kernel_rfl) rfl
theorem enters60 : Enters 60 := enters_of Tryz.func60 (by kernel_rfl) rfl
theorem enters61 : Enters 61 := enters_of Tryz.func61 (by kernel_rfl) rfl
theorem enters62 : Enters 62 := enters_of Tryz.func62 (by kernel_rfl) rfl
theorem enters63 : Enters 63 := enters_of Tryz.func63 (by kernel_rfl) rfl
theorem enters64 : Enters 64 := enters_of Tryz.func64 (by kernel_rfl) rfl
set_option maxRecDepth 100000
set_option maxHeartbeats 16000000 in
theorem Join_ok (h g : CodeH) (a b : CodeD) (w : World) (Ha : CodeAt w w.heap.size h a) (Hb : CodeAt w w.heap.size g b) (fa : fineB a (largeB h) = true) (fb : fineB b (largeB g) = true) :
    Calls Tryz.prog 18 #[.agg #[.slice h.i.a h.i.n h.i.c, .slice h.p.a h.p.n h.p.c, .slice h.t.a h.t.n h.t.c, .slice h.s.a h.s.n h.s.c, .slice h.g.a h.g.n h.g.c, .slice h.r.a h.r.n h.r.c, .slice h.o.a h.o.n h.o.c], .agg #[.slice g.i.a g.i.n g.i.c, .slice g.p.a g.p.n g.p.c, .slice g.t.a g.t.n g.t.c, .slice g.s.a g.s.n g.s.c, .slice g.g.a g.g.n g.g.c, .slice g.r.a g.r.n g.r.c, .slice g.o.a g.o.n g.o.c]] w (JoinPost h a b w) := by
  have HA := Lib.hid Ha
  have HB := Lib.hid Hb
  have I0 := Lib.hid (SInv.start h g w)
  have I1 := Lib.hid (I0.out.below ((Below.refl _ _).alloc (Nat.le_refl _) (.cells #[.slice none 0 0, .slice none 0 0, .slice none 0 0, .slice none 0 0, .slice none 0 0, .slice none 0 0, .slice none 0 0] 30)))
  have Q1 : Hid ((((w.alloc (.cells #[.slice h.i.a h.i.n h.i.c, .slice h.p.a h.p.n h.p.c, .slice h.t.a h.t.n h.t.c, .slice h.s.a h.s.n h.s.c, .slice h.g.a h.g.n h.g.c, .slice h.r.a h.r.n h.r.c, .slice h.o.a h.o.n h.o.c] 30)).alloc (.cells #[.slice g.i.a g.i.n g.i.c, .slice g.p.a g.p.n g.p.c, .slice g.t.a g.t.n g.t.c, .slice g.s.a g.s.n g.s.c, .slice g.g.a g.g.n g.g.c, .slice g.r.a g.r.n g.r.c, .slice g.o.a g.o.n g.o.c] 30)).alloc (.cells #[.slice none 0 0, .slice none 0 0, .slice none 0 0, .slice none 0 0, .slice none 0 0, .slice none 0 0, .slice none 0 0] 30)).heap[w.heap.size + 2]? = some (.cells #[.slice none 0 0, .slice none 0 0, .slice none 0 0, .slice none 0 0, .slice none 0 0, .slice none 0 0, .slice none 0 0] 30 (0, 0))) := Lib.hid (by have := heap_alloc_new ((w.alloc (.cells #[.slice h.i.a h.i.n h.i.c, .slice h.p.a h.p.n h.p.c, .slice h.t.a h.t.n h.t.c, .slice h.s.a h.s.n h.s.c, .slice h.g.a h.g.n h.g.c, .slice h.r.a h.r.n h.r.c, .slice h.o.a h.o.n h.o.c] 30)).alloc (.cells #[.slice g.i.a g.i.n g.i.c, .slice g.p.a g.p.n g.p.c, .slice g.t.a g.t.n g.t.c, .slice g.s.a g.s.n g.s.c, .slice g.g.a g.g.n g.g.c, .slice g.r.a g.r.n g.r.c, .slice g.o.a g.o.n g.o.c] 30)) (.cells #[.slice none 0 0, .slice none 0 0, .slice none 0 0, .slice none 0 0, .slice none 0 0, .slice none 0 0, .slice none 0 0] 30); rwa [World.size_alloc, World.size_alloc] at this)
  clear Ha Hb
  have x0 := I1.out.x.c0
  have hmm : ∀ w : World, (Instr.makeMap 100 none).run Tryz.prog w = .ok (.map (some w.heap.size)) (w.alloc (sm h 0)) := fun w => rfl
  have hmf : ∀ (fn : Fn) (first cap : Array Value) (w : World), (Instr.makeFunc fn first cap).run Tryz.prog w = .ok (.func fn first cap) w := fun _ _ _ _ => rfl
  clear x0
  have SA := Lib.hid (large_sizes (fine_well fa).1)
  have SB := Lib.hid (large_sizes (fine_well fb).1)
  have C1 := Lib.hid (fine_any h a)
  have C2 := Lib.hid (fine_any g b)
  rw [fa] at C1
  rw [fb] at C2
  go_enter Tryz.func18, Tryz.ntmps18
  go_wp2_with (first
    | (go_at_call 56; refine (C1.out _ (HA.out.at I1.out.x.b)).mono ?_; clear C1; rintro e w1 ⟨rfl, hb1⟩; have I2 := Lib.hid (I1.out.below hb1); have Q2 := Lib.hid ((hb1.block _ (Array.getElem?_eq_some_iff.1 Q1.out).1).trans Q1.out); clear hb1; have y0 := I2.out.d0; have y1 := I2.out.d1; have y2 := I2.out.d2; have y3 := I2.out.d3; have y4 := I2.out.d4; have y5 := I2.out.d5; have y6 := I2.out.d6)
    | (go_at_call 56; refine (C2.out _ (HB.out.at I2.out.x.b)).mono ?_; clear C2; rintro e w2 ⟨rfl, hb2⟩; have I3 := Lib.hid (I2.out.below hb2); have Q3 := Lib.hid ((hb2.block _ (Array.getElem?_eq_some_iff.1 Q2.out).1).trans Q2.out); clear hb2 y0 y1 y2 y3 y4 y5 y6; have x0 := I3.out.x.c0; have x1 := I3.out.x.c1; have x2 := I3.out.x.c2; have x3 := I3.out.x.c3; have x4 := I3.out.x.c4; have x5 := I3.out.x.c5; have x6 := I3.out.x.c6; have e0 := fun (o1 o2 : Obj) => (I3.out.below (((Below.refl _ w2).alloc (Nat.le_refl _) o1).alloc (by simp) o2)).x.c0; have e1 := fun (o1 o2 : Obj) => (I3.out.below (((Below.refl _ w2).alloc (Nat.le_refl _) o1).alloc (by simp) o2)).x.c1; have e2 := fun (o1 o2 : Obj) => (I3.out.below (((Below.refl _ w2).alloc (Nat.le_refl _) o1).alloc (by simp) o2)).x.c2; have e3 := fun (o1 o2 : Obj) => (I3.out.below (((Below.refl _ w2).alloc (Nat.le_refl _) o1).alloc (by simp) o2)).x.c3; have e4 := fun (o1 o2 : Obj) => (I3.out.below (((Below.refl _ w2).alloc (Nat.le_refl _) o1).alloc (by simp) o2)).x.c4; have e5 := fun (o1 o2 : Obj) => (I3.out.below (((Below.refl _ w2).alloc (Nat.le_refl _) o1).alloc (by simp) o2)).x.c5; have e6 := fun (o1 o2 : Obj) => (I3.out.below (((Below.refl _ w2).alloc (Nat.le_refl _) o1).alloc (by simp) o2)).x.c6; have s0 := sm_ins0 h (w2.alloc (.cells #[.int .i64 h.i.n] 3)); rw [World.size_alloc] at s0; have s1 := sm_ins1 h (w2.alloc (.cells #[.int .i64 h.i.n] 3)); rw [World.size_alloc] at s1; have s2 := sm_ins2 h (w2.alloc (.cells #[.int .i64 h.i.n] 3)); rw [World.size_alloc] at s2; have s3 := sm_ins3 h (w2.alloc (.cells #[.int .i64 h.i.n] 3)); rw [World.size_alloc] at s3; have s4 := sm_ins4 h (w2.alloc (.cells #[.int .i64 h.i.n] 3)); rw [World.size_alloc] at s4; have s5 := sm_ins5 h (w2.alloc (.cells #[.int .i64 h.i.n] 3)); rw [World.size_alloc] at s5; have s6 := sm_ins6 h (w2.alloc (.cells #[.int .i64 h.i.n] 3)); rw [World.size_alloc] at s6; have s7 := sm_ins7 h (w2.alloc (.cells #[.int .i64 h.i.n] 3)); rw [World.size_alloc] at s7; have s8 := sm_ins8 h (w2.alloc (.cells #[.int .i64 h.i.n] 3)); rw [World.size_alloc] at s8))
  have hM : ((w2.alloc (.cells #[.int .i64 h.i.n] 3)).alloc (sm h 9)).heap.size = w2.heap.size + 2 := by simp
  have HS := Lib.hid (I3.out.below (((Below.refl _ w2).alloc (Nat.le_refl _) (.cells #[.int .i64 h.i.n] 3)).alloc (by simp) (sm h 9)))
  have HY : Hid (((w2.alloc (.cells #[.int .i64 h.i.n] 3)).alloc (sm h 9)).cell? ⟨w2.heap.size, 0, none⟩ = some (.int .i64 h.i.n)) := Lib.hid (by
    rw [World.cell?_alloc_lt _ _ _ (by simp)]
    exact cell_of_row _ w2.heap.size _ _ _ (0, 0) (heap_alloc_new w2 _))
  have HMP : Hid (((w2.alloc (.cells #[.int .i64 h.i.n] 3)).alloc (sm h 9)).heap[w2.heap.size + 1]? = some (sm h 9)) := Lib.hid (by
    have := heap_alloc_new (w2.alloc (.cells #[.int .i64 h.i.n] 3)) (sm h 9)
    rwa [World.size_alloc] at this)
  have hz : w.heap.size + 3 ≤ w2.heap.size := (Array.getElem?_eq_some_iff.1 Q3.out).1
  have HQ := Lib.hid (((((Below.refl _ w2).alloc (Nat.le_refl _) (.cells #[.int .i64 h.i.n] 3)).alloc (by simp) (sm h 9)).block _ (Array.getElem?_eq_some_iff.1 Q3.out).1).trans Q3.out)
  clear x0 x1 x2 x3 x4 x5 x6 e0 e1 e2 e3 e4 e5 e6 s0 s1 s2 s3 s4 s5 s6 s7 s8
  generalize hW : (w2.alloc (.cells #[.int .i64 h.i.n] 3)).alloc (sm h 9) = W6 at *
  clear hW
  refine wp_region_list (by kernel_rfl) (by kernel_rfl) (fun _ w' => Below (w2.heap.size + 2) W6 w') (fun _ u u' => Below u.heap.size u u') (JPred w.heap.size (w2.heap.size + 1) h g a b) ((Below.refl _ _).drew) (fun i _ v u u' _ => JPred.stab i v u u') ?_ ?_
  · refine ⟨?_, ?_, ?_, ?_, ?_, ?_, ?_, ?_, ?_, ?_, ?_, ?_, ?_, ?_, ?_, ?_, ?_, ?_, ?_, ?_, ?_, ?_, ?_, ?_, ?_, ?_, ?_, ?_, ?_, trivial⟩
    · intro a' u listed hls hl0 hg hd hs
      exact op_fieldAddr rfl ((hs.2.2 2 (notDst (by kernel_rfl))).trans rfl) (by decide) ⟨_, rfl, hg, Below.refl _ _, fun h => (by cases h), rfl⟩
    · intro a' u listed hls hl0 hg hd hs
      exact op_load22 rfl (hd 0 (by kernel_rfl)) ((hg.cell (p := ⟨w.heap.size, 0, none⟩) (by simp; omega)).trans HS.out.x.c0) ⟨_, rfl, hg, Below.refl _ _, fun h => (by cases h), rfl⟩
    · intro a' u listed hls hl0 hg hd hs
      refine op_call rfl enters58 (hd 1 (by kernel_rfl)) (clone_instr _ _ _ w.heap.size _ _ (HA.out.i.below (HS.out.x.b.trans (hg.mono (by omega)))) (one_instr _) (by have := SA.out; omega) (by have := hg.size; omega)) ?_
      intro v' w' ho hb
      exact ⟨_, rfl, hg.trans (hb.mono (by have := hg.size; omega)), hb, fun h => (by cases h), own_mono ho (by have := hg.size; omega)⟩
    · intro a' u listed hls hl0 hg hd hs
      exact op_fieldAddr rfl ((hs.2.2 2 (notDst (by kernel_rfl))).trans rfl) (by decide) ⟨_, rfl, hg, Below.refl _ _, fun h => (by cases h), rfl⟩
    · intro a' u listed hls hl0 hg hd hs
      exact op_load23 rfl (hd 3 (by kernel_rfl)) ((hg.cell (p := ⟨w.heap.size, 1, none⟩) (by simp; omega)).trans HS.out.x.c1) ⟨_, rfl, hg, Below.refl _ _, fun h => (by cases h), rfl⟩
    · intro a' u listed hls hl0 hg hd hs
      refine op_call rfl enters59 (hd 4 (by kernel_rfl)) (clone_proc _ _ _ w.heap.size _ _ (HA.out.p.below (HS.out.x.b.trans (hg.mono (by omega)))) (one_proc _) (by have := SA.out; omega) (by have := hg.size; omega)) ?_
      intro v' w' ho hb
      exact ⟨_, rfl, hg.trans (hb.mono (by have := hg.size; omega)), hb, fun h => (by cases h), own_mono ho (by have := hg.size; omega)⟩
    · intro a' u listed hls hl0 hg hd hs
      exact op_fieldAddr rfl ((hs.2.2 2 (notDst (by kernel_rfl))).trans rfl) (by decide) ⟨_, rfl, hg, Below.refl _ _, fun h => (by cases h), rfl⟩
    · intro a' u listed hls hl0 hg hd hs
      exact op_load24 rfl (hd 6 (by kernel_rfl)) ((hg.cell (p := ⟨w.heap.size, 2, none⟩) (by simp; omega)).trans HS.out.x.c2) ⟨_, rfl, hg, Below.refl _ _, fun h => (by cases h), rfl⟩
    · intro a' u listed hls hl0 hg hd hs
      refine op_call rfl enters60 (hd 7 (by kernel_rfl)) (clone_thunk _ _ _ w.heap.size _ _ (HA.out.t.below (HS.out.x.b.trans (hg.mono (by omega)))) (one_thunk _) (by have := SA.out; omega) (by have := hg.size; omega)) ?_
      intro v' w' ho hb
      exact ⟨_, rfl, hg.trans (hb.mono (by have := hg.size; omega)), hb, fun h => (by cases h), own_mono ho (by have := hg.size; omega)⟩
    · intro a' u listed hls hl0 hg hd hs
      exact op_fieldAddr rfl ((hs.2.2 2 (notDst (by kernel_rfl))).trans rfl) (by decide) ⟨_, rfl, hg, Below.refl _ _, fun h => (by cases h), rfl⟩
    · intro a' u listed hls hl0 hg hd hs
      exact op_load26 rfl (hd 9 (by kernel_rfl)) ((hg.cell (p := ⟨w.heap.size, 4, none⟩) (by simp; omega)).trans HS.out.x.c4) ⟨_, rfl, hg, Below.refl _ _, fun h => (by cases h), rfl⟩
    · intro a' u listed hls hl0 hg hd hs
      exact op_fieldAddr rfl ((hs.2.2 3 (notDst (by kernel_rfl))).trans rfl) (by decide) ⟨_, rfl, hg, Below.refl _ _, fun h => (by cases h), rfl⟩
    · intro a' u listed hls hl0 hg hd hs
      exact op_load26 rfl (hd 11 (by kernel_rfl)) ((hg.cell (p := ⟨w.heap.size + 1, 4, none⟩) (by simp; omega)).trans HS.out.d4) ⟨_, rfl, hg, Below.refl _ _, fun h => (by cases h), rfl⟩
    · intro a' u listed hls hl0 hg hd hs
      refine op_build146 rfl (hd 10 (by kernel_rfl)) (hd 12 (by kernel_rfl)) ⟨_, rfl, hg.alloc (by have := hg.size; omega) _, (Below.refl _ u).alloc (Nat.le_refl _) _, fun h => (by cases h), u.heap.size, rfl, by simp, ?_, ?_⟩
      all_goals exact cell_of_row _ u.heap.size _ _ _ (0, 0) (heap_alloc_new u _)
    · intro a' u listed hls hl0 hg hd hs
      obtain ⟨m, hv, hm, m0, m1⟩ := hd 13 (by kernel_rfl)
      refine op_call rfl enters61 hv (concat_strs m _ _ _ _ _ _ 2 w.heap.size _ _ u hm m0 m1 (HA.out.g.below (HS.out.x.b.trans (hg.mono (by omega)))) (HB.out.g.below (HS.out.x.b.trans (hg.mono (by omega)))) (one_strs _) (one_strs _) (by have := SA.out; omega) (by have := SB.out; omega) (by have := hg.size; omega)) ?_
      intro v' w' ho hb
      exact ⟨_, rfl, hg.trans (hb.mono (by have := hg.size; omega)), hb, fun h => (by cases h), own_mono ho (by have := hg.size; omega)⟩
    · intro a' u listed hls hl0 hg hd hs
      exact op_fieldAddr rfl ((hs.2.2 2 (notDst (by kernel_rfl))).trans rfl) (by decide) ⟨_, rfl, hg, Below.refl _ _, fun h => (by cases h), rfl⟩
    · intro a' u listed hls hl0 hg hd hs
      exact op_load27 rfl (hd 15 (by kernel_rfl)) ((hg.cell (p := ⟨w.heap.size, 5, none⟩) (by simp; omega)).trans HS.out.x.c5) ⟨_, rfl, hg, Below.refl _ _, fun h => (by cases h), rfl⟩
    · intro a' u listed hls hl0 hg hd hs
      exact op_fieldAddr rfl ((hs.2.2 3 (notDst (by kernel_rfl))).trans rfl) (by decide) ⟨_, rfl, hg, Below.refl _ _, fun h => (by cases h), rfl⟩
    · intro a' u listed hls hl0 hg hd hs
      exact op_load27 rfl (hd 17 (by kernel_rfl)) ((hg.cell (p := ⟨w.heap.size + 1, 5, none⟩) (by simp; omega)).trans HS.out.d5) ⟨_, rfl, hg, Below.refl _ _, fun h => (by cases h), rfl⟩
    · intro a' u listed hls hl0 hg hd hs
      refine op_build148 rfl (hd 16 (by kernel_rfl)) (hd 18 (by kernel_rfl)) ⟨_, rfl, hg.alloc (by have := hg.size; omega) _, (Below.refl _ u).alloc (Nat.le_refl _) _, fun h => (by cases h), u.heap.size, rfl, by simp, ?_, ?_⟩
      all_goals exact cell_of_row _ u.heap.size _ _ _ (0, 0) (heap_alloc_new u _)
    · intro a' u listed hls hl0 hg hd hs
      obtain ⟨m, hv, hm, m0, m1⟩ := hd 19 (by kernel_rfl)
      refine op_call rfl enters62 hv (concat_real m _ _ _ _ _ _ 2 w.heap.size _ _ u hm m0 m1 (HA.out.r.below (HS.out.x.b.trans (hg.mono (by omega)))) (HB.out.r.below (HS.out.x.b.trans (hg.mono (by omega)))) (one_real _) (one_real _) (by have := SA.out; omega) (by have := SB.out; omega) (by have := hg.size; omega)) ?_
      intro v' w' ho hb
      exact ⟨_, rfl, hg.trans (hb.mono (by have := hg.size; omega)), hb, fun h => (by cases h), own_mono ho (by have := hg.size; omega)⟩
    · intro a' u listed hls hl0 hg hd hs
      exact op_fieldAddr rfl ((hs.2.2 2 (notDst (by kernel_rfl))).trans rfl) (by decide) ⟨_, rfl, hg, Below.refl _ _, fun h => (by cases h), rfl⟩
    · intro a' u listed hls hl0 hg hd hs
      exact op_load28 rfl (hd 21 (by kernel_rfl)) ((hg.cell (p := ⟨w.heap.size, 6, none⟩) (by simp; omega)).trans HS.out.x.c6) ⟨_, rfl, hg, Below.refl _ _, fun h => (by cases h), rfl⟩
    · intro a' u listed hls hl0 hg hd hs
      exact op_fieldAddr rfl ((hs.2.2 3 (notDst (by kernel_rfl))).trans rfl) (by decide) ⟨_, rfl, hg, Below.refl _ _, fun h => (by cases h), rfl⟩
    · intro a' u listed hls hl0 hg hd hs
      exact op_load28 rfl (hd 23 (by kernel_rfl)) ((hg.cell (p := ⟨w.heap.size + 1, 6, none⟩) (by simp; omega)).trans HS.out.d6) ⟨_, rfl, hg, Below.refl _ _, fun h => (by cases h), rfl⟩
    · intro a' u listed hls hl0 hg hd hs
      refine op_build25 rfl (hd 22 (by kernel_rfl)) (hd 24 (by kernel_rfl)) ⟨_, rfl, hg.alloc (by have := hg.size; omega) _, (Below.refl _ u).alloc (Nat.le_refl _) _, fun h => (by cases h), u.heap.size, rfl, by simp, ?_, ?_⟩
      all_goals exact cell_of_row _ u.heap.size _ _ _ (0, 0) (heap_alloc_new u _)
    · intro a' u listed hls hl0 hg hd hs
      obtain ⟨m, hv, hm, m0, m1⟩ := hd 25 (by kernel_rfl)
      refine op_call rfl enters63 hv (concat_ints m _ _ _ _ _ _ 2 w.heap.size _ _ u hm m0 m1 (HA.out.o.below (HS.out.x.b.trans (hg.mono (by omega)))) (HB.out.o.below (HS.out.x.b.trans (hg.mono (by omega)))) (one_ints _) (one_ints _) (by have := SA.out; omega) (by have := SB.out; omega) (by have := hg.size; omega)) ?_
      intro v' w' ho hb
      exact ⟨_, rfl, hg.trans (hb.mono (by have := hg.size; omega)), hb, fun h => (by cases h), own_mono ho (by have := hg.size; omega)⟩
    · intro a' u listed hls hl0 hg hd hs
      have r0 := hd 2 (by kernel_rfl)
      have r1 := hd 5 (by kernel_rfl)
      have r2 := hd 8 (by kernel_rfl)
      have r4 := hd 14 (by kernel_rfl)
      have r5 := hd 20 (by kernel_rfl)
      have r6 := hd 26 (by kernel_rfl)
      exact op_build30 rfl rfl rfl rfl rfl rfl rfl (own_isSlice r0) (own_isSlice r1) (own_isSlice r2) (own_isSlice r4) (own_isSlice r5) (own_isSlice r6) ⟨_, rfl, hg, Below.refl _ _, fun h => (by cases h), _, _, _, _, _, _, rfl, r0, r1, r2, r4, r5, r6⟩
    · intro a' u listed hls hl0 hg hd hs
      exact op_alloc30 rfl ⟨_, rfl, hg.alloc (by have := hg.size; omega) _, (Below.refl _ u).alloc (Nat.le_refl _) _, fun h => (by cases h), u.heap.size, rfl, by have := hg.size; omega, heap_alloc_new u _⟩
  · intro o ho a' u listed hg hp hs
    obtain rfl := Option.some.inj ho
    obtain ⟨O, p9, hO, hOc⟩ := hp 28 (by decide)
    obtain ⟨v0, v1, v2, v4, v5, v6, p92, r0, r1, r2, r4, r5, r6⟩ := hp 27 (by decide)
    refine op_store30 rfl p9 p92 (own_isSlice r0) (own_isSlice r1) (own_isSlice r2) (own_isSlice r4) (own_isSlice r5) (own_isSlice r6) hOc ?_
    have hbelow := set7_below v0 v1 v2 v4 v5 v6 hg (by omega : w2.heap.size + 2 ≤ O)
    have JO := Lib.hid (JOut.mk (v3 := .slice none 0 0) (n3 := 0) (x3 := []) hO (set7_heap v0 v1 v2 v4 v5 v6 hOc) (set7_own v0 v1 v2 v4 v5 v6 hOc r0 (by decide)) (set7_own v0 v1 v2 v4 v5 v6 hOc r1 (by decide)) (set7_own v0 v1 v2 v4 v5 v6 hOc r2 (by decide)) (World.ownsRow_nil _ _ _ _) (set7_own v0 v1 v2 v4 v5 v6 hOc r4 (by decide)) (set7_own v0 v1 v2 v4 v5 v6 hOc r5 (by decide)) (set7_own v0 v1 v2 v4 v5 v6 hOc r6 (by decide)))
    generalize set7 u O v0 v1 v2 v4 v5 v6 = U at *
    have ha := act_puts [(9, .pointer (some ⟨O, 0, none⟩)), (92, .agg #[v0, v1, v2, .slice none 0 0, v4, v5, v6]),  (65, a'.tmps.getD 65 undef), (66, a'.tmps.getD 66 undef), (67, a'.tmps.getD 67 undef), (68, a'.tmps.getD 68 undef), (69, a'.tmps.getD 69 undef), (70, a'.tmps.getD 70 undef), (71, a'.tmps.getD 71 undef), (72, a'.tmps.getD 72 undef), (73, a'.tmps.getD 73 undef), (74, a'.tmps.getD 74 undef), (75, a'.tmps.getD 75 undef), (76, a'.tmps.getD 76 undef), (77, a'.tmps.getD 77 undef), (78, a'.tmps.getD 78 undef), (79, a'.tmps.getD 79 undef), (80, a'.tmps.getD 80 undef), (81, a'.tmps.getD 81 undef), (82, a'.tmps.getD 82 undef), (83, a'.tmps.getD 83 undef), (84, a'.tmps.getD 84 undef), (85, a'.tmps.getD 85 undef), (86, a'.tmps.getD 86 undef), (87, a'.tmps.getD 87 undef), (88, a'.tmps.getD 88 undef), (89, a'.tmps.getD 89 undef), (90, a'.tmps.getD 90 undef), (91, a'.tmps.getD 91 undef)] a' ?pl hs.1 hs.2.1 ?pk
    case pl =>
      intro p hp'
      simp only [List.mem_cons, List.not_mem_nil, or_false] at hp'
      rcases hp' with rfl | rfl | rfl | rfl | rfl | rfl | rfl | rfl | rfl | rfl | rfl | rfl | rfl | rfl | rfl | rfl | rfl | rfl | rfl | rfl | rfl | rfl | rfl | rfl | rfl | rfl | rfl | rfl | rfl
      · exact ⟨by show 9 < 230; decide, p9⟩
      · exact ⟨by show 92 < 230; decide, p92⟩
      all_goals exact ⟨by simp, rfl⟩
    case pk =>
      intro k hk
      refine hs.2.2 k (fun o ho he => ?_)
      simp only [List.mem_cons, List.not_mem_nil, or_false, forall_eq_or_imp, forall_eq] at hk
      simp only [List.mem_toArray, List.mem_cons, List.not_mem_nil, or_false] at ho
      rcases ho with rfl | rfl | rfl | rfl | rfl | rfl | rfl | rfl | rfl | rfl | rfl | rfl | rfl | rfl | rfl | rfl | rfl | rfl | rfl | rfl | rfl | rfl | rfl | rfl | rfl | rfl | rfl | rfl | rfl | rfl <;> simp at he <;> omega
    change Exit.then _ _ .normal a' U
    generalize a'.tmps.getD 65 undef = t65 at ha
    generalize a'.tmps.getD 66 undef = t66 at ha
    generalize a'.tmps.getD 67 undef = t67 at ha
    generalize a'.tmps.getD 68 undef = t68 at ha
    generalize a'.tmps.getD 69 undef = t69 at ha
    generalize a'.tmps.getD 70 undef = t70 at ha
    generalize a'.tmps.getD 71 undef = t71 at ha
    generalize a'.tmps.getD 72 undef = t72 at ha
    generalize a'.tmps.getD 73 undef = t73 at ha
    generalize a'.tmps.getD 74 undef = t74 at ha
    generalize a'.tmps.getD 75 undef = t75 at ha
    generalize a'.tmps.getD 76 undef = t76 at ha
    generalize a'.tmps.getD 77 undef = t77 at ha
    generalize a'.tmps.getD 78 undef = t78 at ha
    generalize a'.tmps.getD 79 undef = t79 at ha
    generalize a'.tmps.getD 80 undef = t80 at ha
    generalize a'.tmps.getD 81 undef = t81 at ha
    generalize a'.tmps.getD 82 undef = t82 at ha
    generalize a'.tmps.getD 83 undef = t83 at ha
    generalize a'.tmps.getD 84 undef = t84 at ha
    generalize a'.tmps.getD 85 undef = t85 at ha
    generalize a'.tmps.getD 86 undef = t86 at ha
    generalize a'.tmps.getD 87 undef = t87 at ha
    generalize a'.tmps.getD 88 undef = t88 at ha
    generalize a'.tmps.getD 89 undef = t89 at ha
    generalize a'.tmps.getD 90 undef = t90 at ha
    generalize a'.tmps.getD 91 undef = t91 at ha
    rw [ha]
    simp only [List.foldl_cons, List.foldl_nil, Act.put, List.setIfInBounds_toArray, List.set_cons_succ, List.set_cons_zero]
    clear ha hp hs p9 p92 r0 r1 r2 r4 r5 r6 hOc hg
    clear I0 I1 I2 I3 Q1 Q2 Q3
    have HB6 := Lib.hid hbelow
    clear hbelow
    go_wp2_with (first
      | (go_at_call 44; refine (FmtIns.formats_any _).mono ?_; rintro e w3 ⟨rfl, hw3⟩; have L0 := Lib.hid (linv_start HS.out HY.out HMP.out hM HB6.out JO.out hz HQ.out hw3); clear hw3; have y0 := L0.out.s.d0))
    clear y0
    generalize U.heap.size = F at L0 ⊢
    clear HB6 JO HS HY HMP hM
    go_loopw [97] (fun i wr => ∃ (k : Nat) (v0 : Value), k ≤ g.i.n ∧ i = .int .i64 k ∧ LInv w.heap.size w2.heap.size F O h g w wr v0 v1 v2 (.slice none 0 0) v4 v5 v6 (h.i.n + k) h.p.n h.t.n 0 (h.g.n + g.g.n) (h.r.n + g.r.n) (h.o.n + g.o.n) (jI h a b k) (a.procs.flatMap ProcD.cells) (a.thunks.flatMap ThunkD.cells) [] (strCells a.strings ++ strCells b.strings) (a.reals.flatMap RealD.cells ++ b.reals.flatMap RealD.cells) (intCells a.owns ++ intCells b.owns)) (fun i _ => g.i.n - (intOf i).toNat)
    case atStart => exact ⟨0, _, by omega, rfl, by rw [jI_zero]; exact L0.out⟩
    case round =>
      obtain ⟨k, v0, hk, rfl, hT⟩ := hrel
      have HT := Lib.hid hT
      clear hT L0
      by_cases hlt : k < g.i.n
      · have hn : g.i.n ≤ 140737488351232 := HB.out.ni.2
        obtain ⟨ad, x, had, hx, hab, hc⟩ := Reads.elem (f := InstrD.cells) (fun _ => rfl) (HB.out.i.below HT.out.s.x.b) HB.out.ni.1 hlt
        have c0 := hc 0 _ (by omega) rfl
        have c1 := hc 1 _ (by omega) rfl
        have c2 := hc 2 _ (by omega) rfl
        have c3 := hc 3 _ (by omega) rfl
        rw [show (ad.add (k * 4)).add 0 = ad.add (k * 4) from rfl] at c0
        rw [show (ad.add (k * 4)).add 1 = { block := (ad.add (k * 4)).block, off := (ad.add (k * 4)).off + 1 } from rfl] at c1
        rw [show (ad.add (k * 4)).add 2 = { block := (ad.add (k * 4)).block, off := (ad.add (k * 4)).off + 2 } from rfl] at c2
        rw [show (ad.add (k * 4)).add 3 = { block := (ad.add (k * 4)).block, off := (ad.add (k * 4)).off + 3 } from rfl] at c3
        rw [had]
        obtain ⟨⟨ha1, ha2⟩, ⟨hb1, hb2⟩, ⟨hc1, hc2⟩⟩ := ins_bounds HB.out fb hx
        have hs1 := shiftN_le (fine_well fa).1 (opK0 x.op)
        have hs2 := shiftN_le (fine_well fa).1 (opK1 x.op)
        have hs3 := shiftN_le (fine_well fa).1 (opK2 x.op)
        have HX := Lib.hid hx
        clear hc hx had hab
        have q1 := fun (o1 : Obj) => (Below.refl wr.heap.size wr).alloc (Nat.le_refl _) o1
        have q2 := fun (o1 o2 : Obj) => (q1 o1).alloc (by simp) o2
        have l1 := fun o1 => look_fmt1 (HT.out.below (q1 o1)).f x.op
        have l2 := fun o1 o2 n => look_shift (HT.out.below (q2 o1 o2)).m n
        have z2 : ∀ o1 o2, ((wr.alloc o1).alloc o2).cell? ⟨O, 0, none⟩ = some v0 := fun o1 o2 => cell_of_row _ O 0 _ _ _ (HT.out.below (q2 o1 o2)).j.o
        have Q2 := Lib.hid q2
        clear q1 q2
        go_wp2_with (first
          | (at_builtin; refine wpList_pushG elemInstr rfl _ _ rfl (w2.heap.size + 2) _ _ _ rfl (HT.out.below (Q2.out _ _)).j.r0 #[.int .i64 x.op, .int .i64 (x.a + (shiftN h (opK0 x.op) : Nat)), .int .i64 (x.b + (shiftN h (opK1 x.op) : Nat)), .int .i64 (x.c + (shiftN h (opK2 x.op) : Nat))] _ rfl (by simp) rfl (one4 _ _ _ _) (by have := SA.out; have := SB.out; omega) (by have := HT.out.ys; simp; omega) ?_; intro v' w5 ho hg; obtain ⟨g', cap', rfl⟩ := ownsRow_succ ho; have HG := (HT.out.below (Q2.out _ _)).keepO0 hg; have hk0 := HG.1; have hk1 := HG.2; have HE := Lib.hid ((HT.out.below (Q2.out _ _)).push0 (x' := jI h a b (k + 1)) (by rw [jI_succ HX.out]; exact ho) hg); clear ho hg HG))
        go_roundw
        case rel => exact ⟨k + 1, _, by omega, by go_num, HE.out⟩
        case measure => simp [intOf]; omega
      · obtain rfl : k = g.i.n := by omega
        have f1 := HT.out.s.d1
        have L1 := HT
        clear HT
        have hen := fun n p w => enters57 (#[.int .i64 n] ++ #[.pointer p]) w
        go_wp2
        clear f1
        go_loopw [142] (fun i wr => ∃ (k : Nat) (v1 : Value), k ≤ g.p.n ∧ i = .int .i64 k ∧ LInv w.heap.size w2.heap.size F O h g w wr v0 v1 v2 (.slice none 0 0) v4 v5 v6 (h.i.n + g.i.n) (h.p.n + k) h.t.n 0 (h.g.n + g.g.n) (h.r.n + g.r.n) (h.o.n + g.o.n) (jI h a b g.i.n) (jP h a b k) (a.thunks.flatMap ThunkD.cells) [] (strCells a.strings ++ strCells b.strings) (a.reals.flatMap RealD.cells ++ b.reals.flatMap RealD.cells) (intCells a.owns ++ intCells b.owns)) (fun i _ => g.p.n - (intOf i).toNat)
        case atStart => exact ⟨0, _, by omega, rfl, by rw [jP_zero]; exact L1.out⟩
        case round =>
          obtain ⟨k, v1, hk, rfl, hT⟩ := hrel
          have HT := Lib.hid hT
          clear hT L1
          by_cases hlt : k < g.p.n
          · have hn : g.p.n ≤ 140737488351232 := HB.out.np.2
            obtain ⟨ad, x, had, hx, hab, hc⟩ := Reads.elem (f := ProcD.cells) (fun _ => rfl) (HB.out.p.below HT.out.s.x.b) HB.out.np.1 hlt
            have c0 := hc 0 _ (by omega) rfl
            have c1 := hc 1 _ (by omega) rfl
            have c2 := hc 2 _ (by omega) rfl
            have c3 := hc 3 _ (by omega) rfl
            have c4 := hc 4 _ (by omega) rfl
            rw [show (ad.add (k * 5)).add 0 = ad.add (k * 5) from rfl] at c0
            rw [show (ad.add (k * 5)).add 1 = { block := (ad.add (k * 5)).block, off := (ad.add (k * 5)).off + 1 } from rfl] at c1
            rw [show (ad.add (k * 5)).add 2 = { block := (ad.add (k * 5)).block, off := (ad.add (k * 5)).off + 2 } from rfl] at c2
            rw [show (ad.add (k * 5)).add 3 = { block := (ad.add (k * 5)).block, off := (ad.add (k * 5)).off + 3 } from rfl] at c3
            rw [show (ad.add (k * 5)).add 4 = { block := (ad.add (k * 5)).block, off := (ad.add (k * 5)).off + 4 } from rfl] at c4
            rw [had]
            have hpb := proc_bound HB.out fb hx
            have HPB := Lib.hid hpb
            have HX := Lib.hid hx
            clear hc hx had hab hpb
            have q1 := fun (o1 : Obj) => (Below.refl wr.heap.size wr).alloc (Nat.le_refl _) o1
            have z2 : ∀ o1, (wr.alloc o1).cell? ⟨O, 1, none⟩ = some v1 := fun o1 => cell_of_row _ O 1 _ _ _ (HT.out.below (q1 o1)).j.o
            have Q1 := Lib.hid q1
            clear q1
            go_wp2_with (first
              | (at_builtin; refine wpList_pushG elemProc rfl _ _ rfl (w2.heap.size + 2) _ _ _ rfl (HT.out.below (Q1.out _)).j.r1 #[.int .i64 (mv h.i.n x.entry), .int .i64 x.params, .int .i64 x.type, .int .i64 x.slots, .bool x.std] _ rfl (by simp) rfl (one5 _ _ _ _ _) (by have := SA.out; have := SB.out; omega) (by have := HT.out.ys; simp; omega) ?_; intro v' w5 ho hg; obtain ⟨g', cap', rfl⟩ := ownsRow_succ ho; have HG := (HT.out.below (Q1.out _)).keepO1 hg; have hk0 := HG.1; have hk1 := HG.2; have HE := Lib.hid ((HT.out.below (Q1.out _)).push1 (x' := jP h a b (k + 1)) (by rw [jP_succ HX.out]; exact ho) hg); clear ho hg HG)
              | (refine (move_any x.entry w2.heap.size h.i.n _ (HT.out.below (Q1.out _)).y HPB.out (by have := SA.out; omega)).mono ?_; rintro e w' ⟨rfl, rfl⟩))
            go_roundw
            case rel => exact ⟨k + 1, _, by omega, by go_num, HE.out⟩
            case measure => simp [intOf]; omega
          · obtain rfl : k = g.p.n := by omega
            have f2 := HT.out.s.d2
            have L2 := HT
            clear HT
            go_wp2
            clear f2
            go_loopw [161] (fun i wr => ∃ (k : Nat) (v2 : Value), k ≤ g.t.n ∧ i = .int .i64 k ∧ LInv w.heap.size w2.heap.size F O h g w wr v0 v1 v2 (.slice none 0 0) v4 v5 v6 (h.i.n + g.i.n) (h.p.n + g.p.n) (h.t.n + k) 0 (h.g.n + g.g.n) (h.r.n + g.r.n) (h.o.n + g.o.n) (jI h a b g.i.n) (jP h a b g.p.n) (jT h a b k) [] (strCells a.strings ++ strCells b.strings) (a.reals.flatMap RealD.cells ++ b.reals.flatMap RealD.cells) (intCells a.owns ++ intCells b.owns)) (fun i _ => g.t.n - (intOf i).toNat)
            case atStart => exact ⟨0, _, by omega, rfl, by rw [jT_zero]; exact L2.out⟩
            case round =>
              obtain ⟨k, v2, hk, rfl, hT⟩ := hrel
              have HT := Lib.hid hT
              clear hT L2
              by_cases hlt : k < g.t.n
              · have hn : g.t.n ≤ 140737488351232 := HB.out.nt.2
                obtain ⟨ad, x, had, hx, hab, hc⟩ := Reads.elem (f := ThunkD.cells) (fun _ => rfl) (HB.out.t.below HT.out.s.x.b) HB.out.nt.1 hlt
                have c0 := hc 0 _ (by omega) rfl
                have c1 := hc 1 _ (by omega) rfl
                have c2 := hc 2 _ (by omega) rfl
                rw [show (ad.add (k * 3)).add 0 = ad.add (k * 3) from rfl] at c0
                rw [show (ad.add (k * 3)).add 1 = { block := (ad.add (k * 3)).block, off := (ad.add (k * 3)).off + 1 } from rfl] at c1
                rw [show (ad.add (k * 3)).add 2 = { block := (ad.add (k * 3)).block, off := (ad.add (k * 3)).off + 2 } from rfl] at c2
                rw [had]
                have HPB := Lib.hid (thunk_bound HB.out fb hx)
                have HX := Lib.hid hx
                clear hc hx had hab
                have HT2 := Lib.hid (HT.out.below ((Below.refl wr.heap.size wr).alloc (Nat.le_refl _) (.cells #[.int .i64 x.value, .int .i64 x.address, .int .i64 x.desig] 94)))
                go_wp2
                have hV : (wr.alloc (.cells #[.int .i64 x.value, .int .i64 x.address, .int .i64 x.desig] 94)).heap.size = wr.heap.size + 1 := by simp
                have hXc : ∀ j, (wr.alloc (.cells #[.int .i64 x.value, .int .i64 x.address, .int .i64 x.desig] 94)).cell? ⟨wr.heap.size, j, none⟩ = (#[.int .i64 x.value, .int .i64 x.address, .int .i64 x.desig] : Array Value)[j]? := fun j => cell_of_row _ wr.heap.size j _ 94 (0, 0) (heap_alloc_new wr _)
                have hrl : ∀ q, v2.ownBlock = some q → q < wr.heap.size := fun q hq => (HT.out.j.r2.lt q hq).2
                clear c0 c1 c2
                generalize hW : wr.alloc (.cells #[.int .i64 x.value, .int .i64 x.address, .int .i64 x.desig] 94) = W at *
                have HXC := Lib.hid hXc
                have HRL := Lib.hid hrl
                clear hW hXc hrl
                have hOne : ∀ q, v2.ownBlock = some q → q ≠ O := fun q hq e => own_ne30 HT2.out.j.r2 HT2.out.j.o (by decide) (e ▸ hq)
                have hY : ∀ u, W.grownBy u v2.ownBlock → u.cell? ⟨w2.heap.size, 0, none⟩ = some (.int .i64 h.i.n) := fun u hu => (World.cell?_of_block (w := W) (hu.block _ (by have := HT2.out.ys; simp; omega) (fun e => by have := (HT2.out.j.r2.lt _ e.symm).1; simp at this; omega))).trans HT2.out.y
                have hX : ∀ u j, W.grownBy u v2.ownBlock → u.cell? ⟨wr.heap.size, j, none⟩ = (#[.int .i64 x.value, .int .i64 x.address, .int .i64 x.desig] : Array Value)[j]? := fun u j hu => (World.cell?_of_block (w := W) (hu.block _ (by simp; omega) (fun e => by have := HRL.out _ e.symm; simp at this))).trans (HXC.out j)
                have hI : h.i.n ≤ 1000000 := by have := SA.out; omega
                refine wp_region_list (by kernel_rfl) (by kernel_rfl) (fun L w' => W.grownBy w' v2.ownBlock ∧ (L.getD 16 false = false → Below W.heap.size W w')) (TRel v2) (TPred O wr.heap.size w2.heap.size h.i.n (wr.heap.size + 1) v2 x (h.t.n + k) (jT h a b k)) ⟨grownBy_below' ((Below.refl _ _).drew), fun _ => (Below.refl _ _).drew⟩ (TPred.stab (fun q hq => Nat.lt_succ_of_lt (HRL.out q hq))) ?_ ?_
                · have GN : ∀ (L : Array Bool) (i : Nat) (u : World), i ≠ 16 → (W.grownBy u v2.ownBlock ∧ (L.getD 16 false = false → Below W.heap.size W u)) → (W.grownBy u v2.ownBlock ∧ ((L.setIfInBounds i true).getD 16 false = false → Below W.heap.size W u)) := fun L i u hi h => ⟨h.1, fun e => h.2 (by rwa [getD_set_ne false hi] at e)⟩
                  have HR : ∀ i u, TRel v2 i u u := fun i u => ⟨fun _ => Below.refl _ _, grownBy_below' (Below.refl _ _)⟩
                  refine ⟨?_, ?_, ?_, ?_, ?_, ?_, ?_, ?_, ?_, ?_, ?_, ?_, ?_, ?_, ?_, ?_, ?_, ?_, trivial⟩
                  · intro a' u listed hls hl0 hg hd hs
                    exact op_fieldAddr rfl ((hs.2.2 9 (notDst (by kernel_rfl))).trans rfl) (by decide) ⟨_, rfl, GN _ _ _ (by decide) hg, HR _ _, fun h => (by cases h), rfl⟩
                  · intro a' u listed hls hl0 hg hd hs
                    exact op_load24 rfl (hd 0 (by kernel_rfl)) ((World.cell?_of_block (w := W) (hg.1.block O (Array.getElem?_eq_some_iff.1 HT2.out.j.o).1 (fun e => hOne O e.symm rfl))).trans (cell_of_row W O 2 _ 30 (0, 0) HT2.out.j.o)) ⟨_, rfl, GN _ _ _ (by decide) hg, HR _ _, fun h => (by cases h), rfl⟩
                  · intro a' u listed hls hl0 hg hd hs
                    exact op_move rfl ((hs.2.2 7 (notDst (by kernel_rfl))).trans rfl) ⟨_, rfl, GN _ _ _ (by decide) hg, HR _ _, fun h => (by cases h), rfl⟩
                  · intro a' u listed hls hl0 hg hd hs
                    exact op_fieldAddrS rfl ((hs.2.2 17 (notDst (by kernel_rfl))).trans rfl) (by decide) ⟨_, rfl, GN _ _ _ (by decide) hg, HR _ _, fun h => (by cases h), rfl⟩
                  · intro a' u listed hls hl0 hg hd hs
                    exact op_load3 rfl (hd 3 (by kernel_rfl)) (hX u 0 hg.1) ⟨_, rfl, GN _ _ _ (by decide) hg, HR _ _, fun h => (by cases h), rfl⟩
                  · intro a' u listed hls hl0 hg hd hs
                    exact op_callMove rfl (hd 2 (by kernel_rfl)) (hd 4 (by kernel_rfl)) (hY u hg.1) HPB.out.1 hI ⟨_, rfl, GN _ _ _ (by decide) hg, HR _ _, fun h => (by cases h), rfl⟩
                  · intro a' u listed hls hl0 hg hd hs
                    exact op_move rfl ((hs.2.2 7 (notDst (by kernel_rfl))).trans rfl) ⟨_, rfl, GN _ _ _ (by decide) hg, HR _ _, fun h => (by cases h), rfl⟩
                  · intro a' u listed hls hl0 hg hd hs
                    exact op_fieldAddrS rfl ((hs.2.2 17 (notDst (by kernel_rfl))).trans rfl) (by decide) ⟨_, rfl, GN _ _ _ (by decide) hg, HR _ _, fun h => (by cases h), rfl⟩
                  · intro a' u listed hls hl0 hg hd hs
                    exact op_load3 rfl (hd 7 (by kernel_rfl)) (hX u 1 hg.1) ⟨_, rfl, GN _ _ _ (by decide) hg, HR _ _, fun h => (by cases h), rfl⟩
                  · intro a' u listed hls hl0 hg hd hs
                    exact op_callMove rfl (hd 6 (by kernel_rfl)) (hd 8 (by kernel_rfl)) (hY u hg.1) HPB.out.2.1 hI ⟨_, rfl, GN _ _ _ (by decide) hg, HR _ _, fun h => (by cases h), rfl⟩
                  · intro a' u listed hls hl0 hg hd hs
                    exact op_move rfl ((hs.2.2 7 (notDst (by kernel_rfl))).trans rfl) ⟨_, rfl, GN _ _ _ (by decide) hg, HR _ _, fun h => (by cases h), rfl⟩
                  · intro a' u listed hls hl0 hg hd hs
                    exact op_fieldAddrS rfl ((hs.2.2 17 (notDst (by kernel_rfl))).trans rfl) (by decide) ⟨_, rfl, GN _ _ _ (by decide) hg, HR _ _, fun h => (by cases h), rfl⟩
                  · intro a' u listed hls hl0 hg hd hs
                    exact op_load3 rfl (hd 11 (by kernel_rfl)) (hX u 2 hg.1) ⟨_, rfl, GN _ _ _ (by decide) hg, HR _ _, fun h => (by cases h), rfl⟩
                  · intro a' u listed hls hl0 hg hd hs
                    exact op_callMove rfl (hd 10 (by kernel_rfl)) (hd 12 (by kernel_rfl)) (hY u hg.1) HPB.out.2.2 hI ⟨_, rfl, GN _ _ _ (by decide) hg, HR _ _, fun h => (by cases h), rfl⟩
                  · intro a' u listed hls hl0 hg hd hs
                    exact op_build94 rfl (hd 5 (by kernel_rfl)) (hd 9 (by kernel_rfl)) (hd 13 (by kernel_rfl)) ⟨_, rfl, GN _ _ _ (by decide) hg, HR _ _, fun h => (by cases h), rfl⟩
                  · intro a' u listed hls hl0 hg hd hs
                    have hal : Below u.heap.size u (u.alloc (.cells #[.int .i64 (mv h.i.n x.value), .int .i64 (mv h.i.n x.address), .int .i64 (mv h.i.n x.desig)] 94)) := (Below.refl _ u).alloc (Nat.le_refl _) _
                    exact op_bs94 rfl (hd 14 (by kernel_rfl)) ⟨_, rfl, ⟨grownBy_trans' hg.1 (grownBy_below' hal), fun e => (hg.2 (by rwa [getD_set_ne false (by decide)] at e)).trans (hal.mono hg.1.size)⟩, ⟨fun _ => hal, grownBy_below' hal⟩, fun h => (by cases h), u.heap.size, rfl, by have := hg.1.size; omega, heap_alloc_new u _⟩
                  · intro a' u listed hls hl0 hg hd hs
                    obtain ⟨m, e, hm, hc⟩ := hd 15 (by kernel_rfl)
                    have hrow : u.ownsRow (w2.heap.size + 2) 94 3 v2 (h.t.n + k) (jT h a b k) := own_below HT2.out.j.r2 (hg.2 hl0)
                    refine op_append elemThunk rfl (w2.heap.size + 2) v2 _ _ (hd 1 (by kernel_rfl)) hrow _ m e rfl hc (one3 _ _ _) (by have := SA.out; have := SB.out; omega) (by have := HT2.out.ys; have := hg.1.size; omega) ?_
                    intro v' w' ho hgr
                    have hset : (listed.setIfInBounds 16 true).getD 16 false = true := by simp [hls]
                    exact ⟨_, rfl, ⟨grownBy_trans' hg.1 hgr, fun e => by rw [hset] at e; cases e⟩, ⟨fun h => absurd rfl h, hgr⟩, fun h => (by cases h), ho⟩
                  · intro a' u listed hls hl0 hg hd hs
                    exact op_fieldAddr rfl ((hs.2.2 9 (notDst (by kernel_rfl))).trans rfl) (by decide) ⟨_, rfl, GN _ _ _ (by decide) hg, HR _ _, fun h => (by cases h), rfl⟩
                · intro o ho a' u listed hg hp hs
                  obtain rfl := Option.some.inj ho
                  have p16 : u.ownsRow (w2.heap.size + 2) 94 3 (a'.tmps.getD 181 undef) (h.t.n + k + 1) (jT h a b k ++ (shT h.i.n x).cells) := hp 16 (by decide)
                  have p17 := hp 17 (by decide)
                  have HK := HT2.out.keepO2 hg.1
                  have HE := Lib.hid (HT2.out.push2 (x' := jT h a b (k + 1)) (by rw [jT_succ HX.out]; exact p16) hg.1)
                  refine op_store24 rfl p17 rfl (own_isSlice p16) HK.1 HK.2 ?_
                  have ha := act_puts [(165, a'.tmps.getD 165 undef), (166, a'.tmps.getD 166 undef), (167, a'.tmps.getD 167 undef), (168, a'.tmps.getD 168 undef), (169, a'.tmps.getD 169 undef), (170, a'.tmps.getD 170 undef), (171, a'.tmps.getD 171 undef), (172, a'.tmps.getD 172 undef), (173, a'.tmps.getD 173 undef), (174, a'.tmps.getD 174 undef), (175, a'.tmps.getD 175 undef), (176, a'.tmps.getD 176 undef), (177, a'.tmps.getD 177 undef), (178, a'.tmps.getD 178 undef), (179, a'.tmps.getD 179 undef), (180, a'.tmps.getD 180 undef), (181, a'.tmps.getD 181 undef), (182, a'.tmps.getD 182 undef)] a' ?pl hs.1 hs.2.1 ?pk
                  case pl =>
                    intro p hp'
                    simp only [List.mem_cons, List.not_mem_nil, or_false] at hp'
                    rcases hp' with rfl | rfl | rfl | rfl | rfl | rfl | rfl | rfl | rfl | rfl | rfl | rfl | rfl | rfl | rfl | rfl | rfl | rfl <;> exact ⟨by simp, rfl⟩
                  case pk =>
                    intro k hk
                    refine hs.2.2 k (fun o ho he => ?_)
                    simp only [List.mem_cons, List.not_mem_nil, or_false, forall_eq_or_imp, forall_eq] at hk
                    simp only [List.mem_toArray, List.mem_cons, List.not_mem_nil, or_false] at ho
                    rcases ho with rfl | rfl | rfl | rfl | rfl | rfl | rfl | rfl | rfl | rfl | rfl | rfl | rfl | rfl | rfl | rfl | rfl | rfl | rfl <;> simp at he <;> omega
                  change Exit.inBlock _ _ .normal a' (u.setCell ⟨O, 2, none⟩ (a'.tmps.getD 181 undef))
                  generalize a'.tmps.getD 181 undef = t181 at ha HE ⊢
                  generalize a'.tmps.getD 165 undef = t165 at ha
                  generalize a'.tmps.getD 166 undef = t166 at ha
                  generalize a'.tmps.getD 167 undef = t167 at ha
                  generalize a'.tmps.getD 168 undef = t168 at ha
                  generalize a'.tmps.getD 169 undef = t169 at ha
                  generalize a'.tmps.getD 170 undef = t170 at ha
                  generalize a'.tmps.getD 171 undef = t171 at ha
                  generalize a'.tmps.getD 172 undef = t172 at ha
                  generalize a'.tmps.getD 173 undef = t173 at ha
                  generalize a'.tmps.getD 174 undef = t174 at ha
                  generalize a'.tmps.getD 175 undef = t175 at ha
                  generalize a'.tmps.getD 176 undef = t176 at ha
                  generalize a'.tmps.getD 177 undef = t177 at ha
                  generalize a'.tmps.getD 178 undef = t178 at ha
                  generalize a'.tmps.getD 179 undef = t179 at ha
                  generalize a'.tmps.getD 180 undef = t180 at ha
                  generalize a'.tmps.getD 182 undef = t182 at ha
                  rw [ha]
                  simp only [List.foldl_cons, List.foldl_nil, Act.put, List.setIfInBounds_toArray, List.set_cons_succ, List.set_cons_zero]
                  generalize u.setCell ⟨O, 2, none⟩ t181 = U3 at HE ⊢
                  clear ha hp hs p16 p17 HK hg hY hX hOne HXC HRL hV hI
                  go_wp2
                  go_roundw
                  case rel => exact ⟨k + 1, _, by omega, by go_num, HE.out⟩
                  case measure => simp [intOf]; omega
              · obtain rfl : k = g.t.n := by omega
                have f3 := HT.out.s.x.c3
                have L3 := HT
                clear HT
                go_wp2
                clear f3
                go_loopw [187] (fun i wr => ∃ (k : Nat) (v3 : Value) (sh : List SH), k ≤ h.s.n ∧ i = .int .i64 k ∧ LInv w.heap.size w2.heap.size F O h g w wr v0 v1 v2 v3 v4 v5 v6 (h.i.n + g.i.n) (h.p.n + g.p.n) (h.t.n + g.t.n) k (h.g.n + g.g.n) (h.r.n + g.r.n) (h.o.n + g.o.n) (jI h a b g.i.n) (jP h a b g.p.n) (jT h a b g.t.n) (sh.map SH.v) (strCells a.strings ++ strCells b.strings) (a.reals.flatMap RealD.cells ++ b.reals.flatMap RealD.cells) (intCells a.owns ++ intCells b.owns) ∧ JSw w2.heap.size wr sh (a.switches.take k)) (fun i _ => h.s.n - (intOf i).toNat)
                case atStart => exact ⟨0, _, [], by omega, rfl, L3.out, JSw.nil _ _⟩
                case round =>
                  obtain ⟨k, v3, sh, hk, rfl, hT, hJ⟩ := hrel
                  have HT := Lib.hid hT
                  have HJ := Lib.hid hJ
                  clear hT hJ L3
                  by_cases hlt : k < h.s.n
                  · have hn : h.s.n ≤ 140737488351232 := HA.out.ns.2
                    obtain ⟨ad, sx, x, had, hx, hab, c0, hr, hxl, hsm⟩ := (SwAt.below HA.out.s HT.out.s.x.b).elem HA.out.ns.1 hlt
                    rw [had]
                    have HX := Lib.hid hx
                    have HR := Lib.hid hr
                    have HXL := Lib.hid hxl
                    have HSL := Lib.hid (sw_length HA.out fa x (List.mem_of_getElem? hx))
                    clear hx had hab hr hxl
                    go_wp2
                    have hrl : ∀ q, v3.ownBlock = some q → q < wr.heap.size := fun q hq => (HT.out.j.r3.lt q hq).2
                    have hOne : ∀ q, v3.ownBlock = some q → q ≠ O := fun q hq e => own_ne30 HT.out.j.r3 HT.out.j.o (by decide) (e ▸ hq)
                    have HRL := Lib.hid hrl
                    clear hrl c0
                    refine wp_region_list (by kernel_rfl) (by kernel_rfl) (fun L w' => wr.grownBy w' v3.ownBlock ∧ (L.getD 5 false = false → Below wr.heap.size wr w')) (WRel v3) (WPred O w2.heap.size wr.heap.size v3 (.slice sx.a sx.n sx.c) x k (sh.map SH.v)) ⟨grownBy_below' ((Below.refl _ _).drew), fun _ => (Below.refl _ _).drew⟩ (WPred.stab HRL.out) ?_ ?_
                    · have GN : ∀ (L : Array Bool) (i : Nat) (u : World), i ≠ 5 → (wr.grownBy u v3.ownBlock ∧ (L.getD 5 false = false → Below wr.heap.size wr u)) → (wr.grownBy u v3.ownBlock ∧ ((L.setIfInBounds i true).getD 5 false = false → Below wr.heap.size wr u)) := fun L i u hi h => ⟨h.1, fun e => h.2 (by rwa [getD_set_ne false hi] at e)⟩
                      have HRR : ∀ i u, WRel v3 i u u := fun i u => ⟨fun _ => Below.refl _ _, grownBy_below' (Below.refl _ _)⟩
                      have hNB : ∀ u, wr.grownBy u v3.ownBlock → Below w.heap.size wr u := fun u hu => (Below.refl w.heap.size wr).grown hu (by have := HT.out.s.z; omega) (fun q hq => by have := (HT.out.j.r3.lt q hq).1; have := HT.out.ny; omega)
                      refine ⟨?_, ?_, ?_, ?_, ?_, ?_, ?_, trivial⟩
                      · intro a' u listed hls hl0 hg hd hs
                        exact op_fieldAddr rfl ((hs.2.2 9 (notDst (by kernel_rfl))).trans rfl) (by decide) ⟨_, rfl, GN _ _ _ (by decide) hg, HRR _ _, fun h => (by cases h), rfl⟩
                      · intro a' u listed hls hl0 hg hd hs
                        exact op_load25 rfl (hd 0 (by kernel_rfl)) ((World.cell?_of_block (w := wr) (hg.1.block O (Array.getElem?_eq_some_iff.1 HT.out.j.o).1 (fun e => hOne O e.symm rfl))).trans (cell_of_row wr O 3 _ 30 (0, 0) HT.out.j.o)) ⟨_, rfl, GN _ _ _ (by decide) hg, HRR _ _, fun h => (by cases h), rfl⟩
                      · intro a' u listed hls hl0 hg hd hs
                        exact op_move rfl ((hs.2.2 19 (notDst (by kernel_rfl))).trans rfl) ⟨_, rfl, GN _ _ _ (by decide) hg, HRR _ _, fun h => (by cases h), rfl⟩
                      · intro a' u listed hls hl0 hg hd hs
                        refine op_call rfl enters64 (hd 2 (by kernel_rfl)) (clone_ints _ _ _ w.heap.size _ _ (HR.out.below (hNB u hg.1)) (one_ints _) (by have := HSL.out; have := HXL.out; omega) (by have := HT.out.s.z; have := hg.1.size; omega)) ?_
                        intro v' w' ho hb
                        rw [HXL.out] at ho
                        exact ⟨_, rfl, ⟨grownBy_trans' hg.1 (grownBy_below' hb), fun e => (hg.2 (by rwa [getD_set_ne false (by decide)] at e)).trans (hb.mono hg.1.size)⟩, ⟨fun _ => hb, grownBy_below' hb⟩, fun h => (by cases h), own_mono ho hg.1.size⟩
                      · intro a' u listed hls hl0 hg hd hs
                        have hd3 := hd 3 (by kernel_rfl)
                        obtain ⟨z, hzv, hzn⟩ := own_sh hd3
                        have h4 : u.ownsRow wr.heap.size 3 1 z.v x.length (intCells x) := by rw [← hzv]; exact hd3
                        have hal : Below u.heap.size u (u.alloc (.cells #[z.v] 28)) := (Below.refl _ u).alloc (Nat.le_refl _) _
                        exact op_bs25 rfl hzv ⟨_, rfl, ⟨grownBy_trans' hg.1 (grownBy_below' hal), fun e => (hg.2 (by rwa [getD_set_ne false (by decide)] at e)).trans (hal.mono hg.1.size)⟩, ⟨fun _ => hal, grownBy_below' hal⟩, fun h => (by cases h), u.heap.size, z, rfl, hg.1.size, heap_alloc_new u _, own_below h4 hal, hzn⟩
                      · intro a' u listed hls hl0 hg hd hs
                        obtain ⟨m, z, e, hm, hc, hzo, hzn⟩ := hd 4 (by kernel_rfl)
                        have hrow : u.ownsRow (w2.heap.size + 2) 28 1 v3 k (sh.map SH.v) := own_below HT.out.j.r3 (hg.2 hl0)
                        refine op_append elemSw rfl (w2.heap.size + 2) v3 _ _ (hd 1 (by kernel_rfl)) hrow _ m e rfl hc (one_sh z) (by have := SA.out; omega) (by have := HT.out.ys; have := hg.1.size; omega) ?_
                        intro v' w' ho hgr
                        have hset : (listed.setIfInBounds 5 true).getD 5 false = true := by simp [hls]
                        exact ⟨_, rfl, ⟨grownBy_trans' hg.1 hgr, fun e => by rw [hset] at e; cases e⟩, ⟨fun h => absurd rfl h, hgr⟩, fun h => (by cases h), z, ho, own_high HRL.out hzo hgr, hzn⟩
                      · intro a' u listed hls hl0 hg hd hs
                        exact op_fieldAddr rfl ((hs.2.2 9 (notDst (by kernel_rfl))).trans rfl) (by decide) ⟨_, rfl, GN _ _ _ (by decide) hg, HRR _ _, fun h => (by cases h), rfl⟩
                    · intro o ho a' u listed hg hp hs
                      obtain rfl := Option.some.inj ho
                      have p6 := hp 6 (by decide)
                      obtain ⟨z, p5, hzo, hzn⟩ := hp 5 (by decide)
                      change u.ownsRow (w2.heap.size + 2) 28 1 (a'.tmps.getD 196 undef) (k + 1) (sh.map SH.v ++ [z.v]) at p5
                      have HK := HT.out.keepO3 hg.1
                      have hsz : wr.heap.size ≤ u.heap.size := hg.1.size
                      have HE := Lib.hid (HT.out.push3 (x' := (sh ++ [z]).map SH.v) (by rw [List.map_append]; exact p5) hg.1)
                      have HJ2 := Lib.hid (jsw_push HT.out.j HJ.out p5 hg.1 HT.out.ys hzo hzn (take_snoc_of HX.out))
                      refine op_store25 rfl p6 rfl (own_isSlice p5) HK.1 HK.2 ?_
                      have ha := act_puts [(191, a'.tmps.getD 191 undef), (192, a'.tmps.getD 192 undef), (193, a'.tmps.getD 193 undef), (194, a'.tmps.getD 194 undef), (195, a'.tmps.getD 195 undef), (196, a'.tmps.getD 196 undef), (197, a'.tmps.getD 197 undef)] a' ?pl hs.1 hs.2.1 ?pk
                      case pl =>
                        intro p hp'
                        simp only [List.mem_cons, List.not_mem_nil, or_false] at hp'
                        rcases hp' with rfl | rfl | rfl | rfl | rfl | rfl | rfl <;> exact ⟨by simp, rfl⟩
                      case pk =>
                        intro k hk
                        refine hs.2.2 k (fun o ho he => ?_)
                        simp only [List.mem_cons, List.not_mem_nil, or_false, forall_eq_or_imp, forall_eq] at hk
                        simp only [List.mem_toArray, List.mem_cons, List.not_mem_nil, or_false] at ho
                        rcases ho with rfl | rfl | rfl | rfl | rfl | rfl | rfl | rfl <;> simp at he <;> omega
                      change Exit.inBlock _ _ .normal a' (u.setCell ⟨O, 3, none⟩ (a'.tmps.getD 196 undef))
                      generalize a'.tmps.getD 196 undef = t196 at ha HE HJ2 ⊢
                      generalize a'.tmps.getD 191 undef = t191 at ha
                      generalize a'.tmps.getD 192 undef = t192 at ha
                      generalize a'.tmps.getD 193 undef = t193 at ha
                      generalize a'.tmps.getD 194 undef = t194 at ha
                      generalize a'.tmps.getD 195 undef = t195 at ha
                      generalize a'.tmps.getD 197 undef = t197 at ha
                      rw [ha]
                      simp only [List.foldl_cons, List.foldl_nil, Act.put, List.setIfInBounds_toArray, List.set_cons_succ, List.set_cons_zero]
                      generalize u.setCell ⟨O, 3, none⟩ t196 = U3 at HE HJ2 ⊢
                      clear ha hp hs p5 p6 HK hg hOne HRL hsz hzo hzn
                      go_wp2
                      go_roundw
                      case rel => exact ⟨k + 1, _, sh ++ [z], by omega, by go_num, HE.out, HJ2.out⟩
                      case measure => simp [intOf]; omega
                  · obtain rfl : k = h.s.n := by omega
                    have f4 := HT.out.s.d3
                    have hta : a.switches.take h.s.n = a.switches := List.take_of_length_le (by have := HA.out.ns.1; omega)
                    rw [hta] at HJ
                    have L4 := HT
                    have J4 := HJ
                    clear HT HJ hta
                    go_wp2
                    clear f4
                    go_loopw [202] (fun i wr => ∃ (k : Nat) (v3 : Value) (sh : List SH), k ≤ g.s.n ∧ i = .int .i64 k ∧ LInv w.heap.size w2.heap.size F O h g w wr v0 v1 v2 v3 v4 v5 v6 (h.i.n + g.i.n) (h.p.n + g.p.n) (h.t.n + g.t.n) (h.s.n + k) (h.g.n + g.g.n) (h.r.n + g.r.n) (h.o.n + g.o.n) (jI h a b g.i.n) (jP h a b g.p.n) (jT h a b g.t.n) (sh.map SH.v) (strCells a.strings ++ strCells b.strings) (a.reals.flatMap RealD.cells ++ b.reals.flatMap RealD.cells) (intCells a.owns ++ intCells b.owns) ∧ JSw w2.heap.size wr sh (a.switches ++ (b.switches.take k).map (List.map (mv h.i.n)))) (fun i _ => g.s.n - (intOf i).toNat)
                    case atStart => exact ⟨0, _, _, by omega, rfl, L4.out, by simpa using J4.out⟩
                    case round =>
                      obtain ⟨k, v3, sh, hk, rfl, hT, hJ⟩ := hrel
                      have HT := Lib.hid hT
                      have HJ := Lib.hid hJ
                      clear hT hJ L4 J4
                      obtain ⟨wo, rfl⟩ : ∃ wo : World, wo = wr := ⟨_, rfl⟩
                      by_cases hlt : k < g.s.n
                      · have hn : g.s.n ≤ 140737488351232 := HB.out.ns.2
                        obtain ⟨ad, sx, x, had, hx, hab, c0, hr, hxl, hsm⟩ := (SwAt.below HB.out.s HT.out.s.x.b).elem HB.out.ns.1 hlt
                        rw [had]
                        have HX := Lib.hid hx
                        have HR := Lib.hid hr
                        have HXL := Lib.hid hxl
                        have HSB := Lib.hid (sw_bound HB.out fb hx)
                        have HSL := Lib.hid (sw_length HB.out fb x (List.mem_of_getElem? hx))
                        clear hx had hab hr hxl
                        go_wp2
                        clear c0
                        go_loopw [22, 208] (fun v i wr => ∃ (j : Nat), j ≤ sx.n ∧ i = .int .i64 j ∧ Below wo.heap.size wo wr ∧ wr.ownsRow wo.heap.size 3 1 v j (intCells ((x.take j).map (mv h.i.n)))) (fun _ i _ => sx.n - (intOf i).toNat)
                        case atStart => exact ⟨0, by omega, rfl, Below.refl _ _, World.ownsRow_nil _ _ _ _⟩
                        case round =>
                          obtain ⟨j, hj, rfl, hb, ho⟩ := hrel
                          have HBL := Lib.hid hb
                          have HO := Lib.hid ho
                          clear hb ho
                          have HLI := Lib.hid (HT.out.below HBL.out)
                          by_cases hj2 : j < sx.n
                          · obtain ⟨ad2, y, had2, hy, hab2, cy⟩ := Reads.elem1 (f := Value.int .i64) (HR.out.below (HBL.out.mono (by have := HT.out.s.z; omega))) HXL.out hj2
                            rw [had2]
                            have HYB := Lib.hid (HSB.out y (List.mem_of_getElem? hy))
                            have HY := Lib.hid hy
                            clear hy had2 hab2
                            go_wp2_with (first
                              | (at_builtin; refine wpList_pushG elemInts rfl _ _ rfl wo.heap.size _ _ _ rfl HO.out #[.int .i64 (mv h.i.n y)] _ rfl (by simp) rfl (one_int1 _) (by have := HSL.out; have := HXL.out; omega) (by have := HBL.out.size; simp; omega) ?_; intro v' w5 ho hg; have HB5 := Lib.hid (HBL.out.grown hg HBL.out.size (fun q hq => (HO.out.lt q hq).1)); have HO5 := Lib.hid ho; clear ho hg)
                              | (refine (move_any y w2.heap.size h.i.n _ HLI.out.y HYB.out (by have := SA.out; omega)).mono ?_; rintro e w' ⟨rfl, rfl⟩))
                            go_roundw
                            case rel => exact ⟨j + 1, by omega, by go_num, HB5.out, by rw [mv_snoc HY.out]; exact HO5.out⟩
                            case measure => simp [intOf]; omega
                          · obtain rfl : j = sx.n := by omega
                            obtain ⟨z, hz, hzn⟩ := own_sh HO.out
                            subst hz
                            have q1 := fun (o1 : Obj) => (Below.refl wr.heap.size wr).alloc (Nat.le_refl _) o1
                            have z1 : wr.cell? ⟨O, 3, none⟩ = some v3 := cell_of_row _ O 3 _ _ _ HLI.out.j.o
                            have hxt : x.take sx.n = x := List.take_of_length_le (by have := HXL.out; omega)
                            have HO6 := Lib.hid HO.out
                            rw [hxt] at HO6
                            have HZN := Lib.hid hzn
                            rw [show SH.v z = .slice z.a z.n z.c from rfl]
                            clear q1 hxt hzn HO
                            go_wp2_with (first
                              | (at_builtin; refine wpList_pushG elemSw rfl _ _ rfl (w2.heap.size + 2) _ _ _ rfl HLI.out.j.r3 #[z.v] _ rfl (by simp) rfl (one_sh z) (by have := SA.out; have := SB.out; omega) (by have := HLI.out.ys; simp; omega) ?_; intro v' w5 ho hg; obtain ⟨g', cap', rfl⟩ := ownsRow_succ ho; have HG := HLI.out.keepO3 hg; have hk0 := HG.1; have hk1 := HG.2; have HE := Lib.hid (HLI.out.push3 (x' := (sh ++ [z]).map SH.v) (by rw [List.map_append]; exact ho) hg); have HJ2 := Lib.hid (jsw_push HLI.out.j (HJ.out.below HBL.out) ho hg HT.out.ys (by rw [List.length_map, ← HXL.out]; exact own_kept_ty HO6.out HLI.out.j.r3 (by decide) hg) (by rw [List.length_map, ← HXL.out]; exact HZN.out) (sw_snoc HX.out)); clear ho hg HG))
                            go_roundw
                            case rel => exact ⟨k + 1, _, sh ++ [z], by omega, by go_num, HE.out, HJ2.out⟩
                            case measure => simp [intOf]; omega
                      · obtain rfl : k = g.s.n := by omega
                        have htb : b.switches.take g.s.n = b.switches := List.take_of_length_le (by have := HB.out.ns.1; omega)
                        rw [htb] at HJ
                        obtain ⟨z0, hz0, n0⟩ := own_sh HT.out.j.r0
                        obtain ⟨z1, hz1, n1⟩ := own_sh HT.out.j.r1
                        obtain ⟨z2, hz2, n2⟩ := own_sh HT.out.j.r2
                        obtain ⟨z3, hz3, n3⟩ := own_sh HT.out.j.r3
                        obtain ⟨z4, hz4, n4⟩ := own_sh HT.out.j.r4
                        obtain ⟨z5, hz5, n5⟩ := own_sh HT.out.j.r5
                        obtain ⟨z6, hz6, n6⟩ := own_sh HT.out.j.r6
                        subst hz0 hz1 hz2 hz3 hz4 hz5 hz6
                        have HN := Lib.hid (And.intro n0 (And.intro n1 (And.intro n2 (And.intro n3 (And.intro n4 (And.intro n5 n6))))))
                        clear n0 n1 n2 n3 n4 n5 n6 htb
                        have y0 : wo.cell? ⟨O, 0, none⟩ = some (.slice z0.a z0.n z0.c) := cell_of_row _ O 0 _ _ _ HT.out.j.o
                        have y1 : wo.cell? ⟨O, 1, none⟩ = some (.slice z1.a z1.n z1.c) := cell_of_row _ O 1 _ _ _ HT.out.j.o
                        have y2 : wo.cell? ⟨O, 2, none⟩ = some (.slice z2.a z2.n z2.c) := cell_of_row _ O 2 _ _ _ HT.out.j.o
                        have y3 : wo.cell? ⟨O, 3, none⟩ = some (.slice z3.a z3.n z3.c) := cell_of_row _ O 3 _ _ _ HT.out.j.o
                        have y4 : wo.cell? ⟨O, 4, none⟩ = some (.slice z4.a z4.n z4.c) := cell_of_row _ O 4 _ _ _ HT.out.j.o
                        have y5 : wo.cell? ⟨O, 5, none⟩ = some (.slice z5.a z5.n z5.c) := cell_of_row _ O 5 _ _ _ HT.out.j.o
                        have y6 : wo.cell? ⟨O, 6, none⟩ = some (.slice z6.a z6.n z6.c) := cell_of_row _ O 6 _ _ _ HT.out.j.o
                        have LZ := Lib.hid (large_any ⟨z0, z1, z2, z3, z4, z5, z6⟩)
                        have hz0 : ∀ (u : World), Below wo.heap.size wo u → u.heap[w.heap.size + 2]? = some (.cells #[.slice none 0 0, .slice none 0 0, .slice none 0 0, .slice none 0 0, .slice none 0 0, .slice none 0 0, .slice none 0 0] 30 (0, 0)) := fun u hu => (hu.block _ (Array.getElem?_eq_some_iff.1 HT.out.q).1).trans HT.out.q
                        have HZ := Lib.hid hz0
                        clear hz0
                        cases hLB : largeB ⟨z0, z1, z2, z3, z4, z5, z6⟩
                        · have HLB := Lib.hid hLB
                          rw [hLB] at LZ
                          clear hLB
                          go_wp2_with fail
                          refine (LZ.out _).mono ?_
                          rintro e w6 ⟨rfl, hb6⟩
                          have g0 := (hb6.cell (p := ⟨O, 0, none⟩) (Array.getElem?_eq_some_iff.1 HT.out.j.o).1).trans y0
                          have g1 := (hb6.cell (p := ⟨O, 1, none⟩) (Array.getElem?_eq_some_iff.1 HT.out.j.o).1).trans y1
                          have g2 := (hb6.cell (p := ⟨O, 2, none⟩) (Array.getElem?_eq_some_iff.1 HT.out.j.o).1).trans y2
                          have g3 := (hb6.cell (p := ⟨O, 3, none⟩) (Array.getElem?_eq_some_iff.1 HT.out.j.o).1).trans y3
                          have g4 := (hb6.cell (p := ⟨O, 4, none⟩) (Array.getElem?_eq_some_iff.1 HT.out.j.o).1).trans y4
                          have g5 := (hb6.cell (p := ⟨O, 5, none⟩) (Array.getElem?_eq_some_iff.1 HT.out.j.o).1).trans y5
                          have g6 := (hb6.cell (p := ⟨O, 6, none⟩) (Array.getElem?_eq_some_iff.1 HT.out.j.o).1).trans y6
                          have QH := HZ.out w6 hb6
                          have q0 : w6.cell? ⟨w.heap.size + 1 + 1, 0, none⟩ = some (.slice none 0 0) := cell_of_row _ (w.heap.size + 2) 0 _ _ _ QH
                          have q1 : w6.cell? ⟨w.heap.size + 1 + 1, 1, none⟩ = some (.slice none 0 0) := cell_of_row _ (w.heap.size + 2) 1 _ _ _ QH
                          have q2 : w6.cell? ⟨w.heap.size + 1 + 1, 2, none⟩ = some (.slice none 0 0) := cell_of_row _ (w.heap.size + 2) 2 _ _ _ QH
                          have q3 : w6.cell? ⟨w.heap.size + 1 + 1, 3, none⟩ = some (.slice none 0 0) := cell_of_row _ (w.heap.size + 2) 3 _ _ _ QH
                          have q4 : w6.cell? ⟨w.heap.size + 1 + 1, 4, none⟩ = some (.slice none 0 0) := cell_of_row _ (w.heap.size + 2) 4 _ _ _ QH
                          have q5 : w6.cell? ⟨w.heap.size + 1 + 1, 5, none⟩ = some (.slice none 0 0) := cell_of_row _ (w.heap.size + 2) 5 _ _ _ QH
                          have q6 : w6.cell? ⟨w.heap.size + 1 + 1, 6, none⟩ = some (.slice none 0 0) := cell_of_row _ (w.heap.size + 2) 6 _ _ _ QH
                          have qf : ∀ j, w6.frozen? ⟨w.heap.size + 1 + 1, j, none⟩ = false := fun j => by simp [World.frozen?, QH]
                          have HQH := Lib.hid QH
                          have HB6 := Lib.hid hb6
                          clear QH hb6 y0 y1 y2 y3 y4 y5 y6
                          go_wp2
                          clear g0 g1 g2 g3 g4 g5 g6 q0 q1 q2 q3 q4 q5 q6 qf
                          have HH : (set7v w6 (w.heap.size + 2) z0.v z1.v z2.v z3.v z4.v z5.v z6.v).heap[w.heap.size + 2]? = some (.cells #[.slice z0.a z0.n z0.c, .slice z1.a z1.n z1.c, .slice z2.a z2.n z2.c, .slice z3.a z3.n z3.c, .slice z4.a z4.n z4.c, .slice z5.a z5.n z5.c, .slice z6.a z6.n z6.c] 30 (0, 0)) := set7v_heap _ _ _ _ _ _ _ HQH.out
                          have HBW : Below w.heap.size w (set7v w6 (w.heap.size + 2) z0.v z1.v z2.v z3.v z4.v z5.v z6.v) := set7v_below _ _ _ _ _ _ _ (HT.out.s.x.b.trans (HB6.out.mono (by have := HT.out.s.z; omega))) (by omega)
                          have HCA := joined_fin HT.out HJ.out HA.out HB.out fa fb HN.out HB6.out HQH.out
                          have HLD := largeD_join (a := a) (b := b) HA.out HB.out HN.out
                          rw [HLB.out] at HLD
                          change bodyPost _ _ _ _ _ (set7v w6 (w.heap.size + 1 + 1) z0.v z1.v z2.v z3.v z4.v z5.v z6.v)
                          change (set7v w6 (w.heap.size + 1 + 1) z0.v z1.v z2.v z3.v z4.v z5.v z6.v).heap[w.heap.size + 1 + 1]? = _ at HH
                          change Below w.heap.size w (set7v w6 (w.heap.size + 1 + 1) z0.v z1.v z2.v z3.v z4.v z5.v z6.v) at HBW
                          change CodeAt (set7v w6 (w.heap.size + 1 + 1) z0.v z1.v z2.v z3.v z4.v z5.v z6.v) (set7v w6 (w.heap.size + 1 + 1) z0.v z1.v z2.v z3.v z4.v z5.v z6.v).heap.size _ _ at HCA
                          generalize set7v w6 (w.heap.size + 1 + 1) z0.v z1.v z2.v z3.v z4.v z5.v z6.v = W7 at *
                          have k0 : W7.cell? ⟨w.heap.size + 1 + 1, 0, none⟩ = some (.slice z0.a z0.n z0.c) := cell_of_row _ (w.heap.size + 1 + 1) 0 _ _ _ HH
                          have k1 : W7.cell? ⟨w.heap.size + 1 + 1, 1, none⟩ = some (.slice z1.a z1.n z1.c) := cell_of_row _ (w.heap.size + 1 + 1) 1 _ _ _ HH
                          have k2 : W7.cell? ⟨w.heap.size + 1 + 1, 2, none⟩ = some (.slice z2.a z2.n z2.c) := cell_of_row _ (w.heap.size + 1 + 1) 2 _ _ _ HH
                          have k3 : W7.cell? ⟨w.heap.size + 1 + 1, 3, none⟩ = some (.slice z3.a z3.n z3.c) := cell_of_row _ (w.heap.size + 1 + 1) 3 _ _ _ HH
                          have k4 : W7.cell? ⟨w.heap.size + 1 + 1, 4, none⟩ = some (.slice z4.a z4.n z4.c) := cell_of_row _ (w.heap.size + 1 + 1) 4 _ _ _ HH
                          have k5 : W7.cell? ⟨w.heap.size + 1 + 1, 5, none⟩ = some (.slice z5.a z5.n z5.c) := cell_of_row _ (w.heap.size + 1 + 1) 5 _ _ _ HH
                          have k6 : W7.cell? ⟨w.heap.size + 1 + 1, 6, none⟩ = some (.slice z6.a z6.n z6.c) := cell_of_row _ (w.heap.size + 1 + 1) 6 _ _ _ HH
                          exact bodyPost_ret (v := .tuple #[.agg #[.slice z0.a z0.n z0.c, .slice z1.a z1.n z1.c, .slice z2.a z2.n z2.c, .slice z3.a z3.n z3.c, .slice z4.a z4.n z4.c, .slice z5.a z5.n z5.c, .slice z6.a z6.n z6.c], .int .i64 0]) (by simp [results, Tryz.results18, go_sem, k0, k1, k2, k3, k4, k5, k6, Tryz.sizeOf30]) rfl ⟨HBW, .inr ⟨HLD.symm, ⟨z0, z1, z2, z3, z4, z5, z6⟩, rfl, HCA⟩⟩
                        · have HLB := Lib.hid hLB
                          rw [hLB] at LZ
                          clear hLB
                          go_wp2_with fail
                          refine (LZ.out _).mono ?_
                          rintro e w6 ⟨rfl, hb6⟩
                          have QH := HZ.out w6 hb6
                          have q0 : w6.cell? ⟨w.heap.size + 1 + 1, 0, none⟩ = some (.slice none 0 0) := cell_of_row _ (w.heap.size + 2) 0 _ _ _ QH
                          have q1 : w6.cell? ⟨w.heap.size + 1 + 1, 1, none⟩ = some (.slice none 0 0) := cell_of_row _ (w.heap.size + 2) 1 _ _ _ QH
                          have q2 : w6.cell? ⟨w.heap.size + 1 + 1, 2, none⟩ = some (.slice none 0 0) := cell_of_row _ (w.heap.size + 2) 2 _ _ _ QH
                          have q3 : w6.cell? ⟨w.heap.size + 1 + 1, 3, none⟩ = some (.slice none 0 0) := cell_of_row _ (w.heap.size + 2) 3 _ _ _ QH
                          have q4 : w6.cell? ⟨w.heap.size + 1 + 1, 4, none⟩ = some (.slice none 0 0) := cell_of_row _ (w.heap.size + 2) 4 _ _ _ QH
                          have q5 : w6.cell? ⟨w.heap.size + 1 + 1, 5, none⟩ = some (.slice none 0 0) := cell_of_row _ (w.heap.size + 2) 5 _ _ _ QH
                          have q6 : w6.cell? ⟨w.heap.size + 1 + 1, 6, none⟩ = some (.slice none 0 0) := cell_of_row _ (w.heap.size + 2) 6 _ _ _ QH
                          have qf : ∀ j, w6.frozen? ⟨w.heap.size + 1 + 1, j, none⟩ = false := fun j => by simp [World.frozen?, QH]
                          have HQH := Lib.hid QH
                          have HB6 := Lib.hid hb6
                          clear QH hb6 y0 y1 y2 y3 y4 y5 y6
                          go_wp2
                          clear q0 q1 q2 q3 q4 q5 q6 qf
                          have HH : (set7v w6 (w.heap.size + 2) (.slice none 0 0) (.slice none 0 0) (.slice none 0 0) (.slice none 0 0) (.slice none 0 0) (.slice none 0 0) (.slice none 0 0) ).heap[w.heap.size + 2]? = some (.cells #[.slice none 0 0, .slice none 0 0, .slice none 0 0, .slice none 0 0, .slice none 0 0, .slice none 0 0, .slice none 0 0] 30 (0, 0)) := set7v_heap _ _ _ _ _ _ _ HQH.out
                          have HBW : Below w.heap.size w (set7v w6 (w.heap.size + 2) (.slice none 0 0) (.slice none 0 0) (.slice none 0 0) (.slice none 0 0) (.slice none 0 0) (.slice none 0 0) (.slice none 0 0) ) := set7v_below _ _ _ _ _ _ _ (HT.out.s.x.b.trans (HB6.out.mono (by have := HT.out.s.z; omega))) (by omega)
                          have HLD := largeD_join (a := a) (b := b) HA.out HB.out HN.out
                          rw [HLB.out] at HLD
                          change bodyPost _ _ _ _ _ (set7v w6 (w.heap.size + 1 + 1) (.slice none 0 0) (.slice none 0 0) (.slice none 0 0) (.slice none 0 0) (.slice none 0 0) (.slice none 0 0) (.slice none 0 0) )
                          change (set7v w6 (w.heap.size + 1 + 1) (.slice none 0 0) (.slice none 0 0) (.slice none 0 0) (.slice none 0 0) (.slice none 0 0) (.slice none 0 0) (.slice none 0 0) ).heap[w.heap.size + 1 + 1]? = _ at HH
                          change Below w.heap.size w (set7v w6 (w.heap.size + 1 + 1) (.slice none 0 0) (.slice none 0 0) (.slice none 0 0) (.slice none 0 0) (.slice none 0 0) (.slice none 0 0) (.slice none 0 0) ) at HBW
                          generalize set7v w6 (w.heap.size + 1 + 1) (.slice none 0 0) (.slice none 0 0) (.slice none 0 0) (.slice none 0 0) (.slice none 0 0) (.slice none 0 0) (.slice none 0 0)  = W7 at *
                          have k0 : W7.cell? ⟨w.heap.size + 1 + 1, 0, none⟩ = some (.slice none 0 0) := cell_of_row _ (w.heap.size + 1 + 1) 0 _ _ _ HH
                          have k1 : W7.cell? ⟨w.heap.size + 1 + 1, 1, none⟩ = some (.slice none 0 0) := cell_of_row _ (w.heap.size + 1 + 1) 1 _ _ _ HH
                          have k2 : W7.cell? ⟨w.heap.size + 1 + 1, 2, none⟩ = some (.slice none 0 0) := cell_of_row _ (w.heap.size + 1 + 1) 2 _ _ _ HH
                          have k3 : W7.cell? ⟨w.heap.size + 1 + 1, 3, none⟩ = some (.slice none 0 0) := cell_of_row _ (w.heap.size + 1 + 1) 3 _ _ _ HH
                          have k4 : W7.cell? ⟨w.heap.size + 1 + 1, 4, none⟩ = some (.slice none 0 0) := cell_of_row _ (w.heap.size + 1 + 1) 4 _ _ _ HH
                          have k5 : W7.cell? ⟨w.heap.size + 1 + 1, 5, none⟩ = some (.slice none 0 0) := cell_of_row _ (w.heap.size + 1 + 1) 5 _ _ _ HH
                          have k6 : W7.cell? ⟨w.heap.size + 1 + 1, 6, none⟩ = some (.slice none 0 0) := cell_of_row _ (w.heap.size + 1 + 1) 6 _ _ _ HH
                          exact bodyPost_ret (v := .tuple #[.agg #[.slice none 0 0, .slice none 0 0, .slice none 0 0, .slice none 0 0, .slice none 0 0, .slice none 0 0, .slice none 0 0], .int .i64 2]) (by simp [results, Tryz.results18, go_sem, k0, k1, k2, k3, k4, k5, k6, Tryz.sizeOf30]) rfl ⟨HBW, .inl ⟨HLD.symm, rfl⟩⟩
end Go.Proofs.YtmfnholhhakgaaaGreatDoor
