/- CodeChanges: its walk: it answers true. -/
import Derived.Test.YtmfnholhhakgaaaGreatDoorMgd
import Derived.Test.YtmfnholhhakgaaaGreatDoorChg
import Derived.Test.YtmfnholhhakgaaaGreatDoorChb
import Derived.StillTailTactics
namespace Go.Proofs.YtmfnholhhakgaaaGreatDoor
open Go Go.Proofs Go.RowKit Go.Sort
open Classical
set_option maxRecDepth 100000
set_option maxHeartbeats 8000000 in
theorem CodeChanges_good (h : CodeH) (c : CodeD) (n k : Nat) (x : InstrD) (w : World) (H : CodeAt w w.heap.size h c) (hv : Vars w.heap.size w) (hs : smallB c = true) (h0 : 0 < h.i.n) (hk : n % h.i.n = k) (hf : fineB c (largeB h) = true) (hE : insErr c x = 0) :
    Calls Tryz.prog 7 #[.agg #[.slice h.i.a h.i.n h.i.c, .slice h.p.a h.p.n h.p.c, .slice h.t.a h.t.n h.t.c, .slice h.s.a h.s.n h.s.c, .slice h.g.a h.g.n h.g.c, .slice h.r.a h.r.n h.r.c, .slice h.o.a h.o.n h.o.c], .int .i64 n, .agg #[.int .i64 x.op, .int .i64 x.a, .int .i64 x.b, .int .i64 x.c]] w fun e w' => e = .returned (.bool true) ∧ Below w.heap.size w w' := by
  have HC := Lib.hid H
  have HV := Lib.hid hv
  have HN := Lib.hid H.ni.1
  have II := Lib.hid (XInv.start h x w)
  have SMA := Lib.hid hs
  obtain ⟨hl, W⟩ := fine_well hf
  obtain ⟨_, hn1, _⟩ := large_sizes hl
  have hz1 : ((h.i.n : Int) == 0) = false := by simp; omega
  have CE : Hid (chkErr c (largeB h) = 0) := Lib.hid (by unfold fineB at hf; simpa using hf)
  have hkn : k < h.i.n := by rw [← hk]; exact Nat.mod_lt _ h0
  have hk2 : (n : Int) % (h.i.n : Int) = (k : Int) := by rw [← hk]; exact (Int.natCast_emod n h.i.n).symm
  obtain ⟨ad, had⟩ : ∃ ad, h.i.a = some ad := (H.i.2 h0).elim fun ad hh => ⟨ad, hh.1⟩
  have HAD := Lib.hid had
  have HW := Lib.hid W
  have hkc : k < c.instrs.length := by rw [← HN.out]; exact hkn
  have hbad := chg_good W (k := k) hE
  obtain ⟨hop, hnm, hm0, hm3, hz2, hz1', hz0⟩ := good_ops hE
  obtain ⟨t, ht⟩ : ∃ t, opName x.op = t := ⟨_, rfl⟩
  obtain ⟨M, hM⟩ : ∃ M, manyN (opK0 x.op) (opK1 x.op) (opK2 x.op) = M := ⟨_, rfl⟩
  rw [ht] at hnm
  rw [hM] at hm0 hm3 hz2 hz1' hz0
  have HOP := Lib.hid hop
  have HT := Lib.hid ht
  have HM := Lib.hid hM
  obtain ⟨y, hy⟩ : ∃ y, c.instrs[k]? = some y := ⟨_, List.getElem?_eq_getElem hkc⟩
  have HY := Lib.hid hy
  have hn1' : t.toList.isEmpty = false := by cases hh : t.toList with | nil => exact absurd hh hnm | cons a l => rfl
  have hn2' : (t.toList == []) = false := by cases hh : t.toList with | nil => exact absurd hh hnm | cons a l => rfl
  clear hop ht hM
  have DE : Hid (∀ g cap, chkErr (chg c k x) (largeB (hdI h g cap)) = 0 ∧ chkAt (chg c k x) (largeB (hdI h g cap)) = -1) := Lib.hid (fun g cap => by rw [show largeB (hdI h g cap) = false from hl]; exact hbad)
  have HKC := Lib.hid hkc
  have HADB : Hid (ad.block < w.heap.size) := Lib.hid (by obtain ⟨ad', he, hb, _⟩ := HC.out.i.2 h0; rw [had] at he; cases he; exact hb)
  have HCC : Hid (∀ W, Below w.heap.size w W → W.cell? (ad.add (k * 4)) = some (.int .i64 y.op) ∧ W.cell? { block := (ad.add (k * 4)).block, off := (ad.add (k * 4)).off + 1 } = some (.int .i64 y.a) ∧ W.cell? { block := (ad.add (k * 4)).block, off := (ad.add (k * 4)).off + 2 } = some (.int .i64 y.b) ∧ W.cell? { block := (ad.add (k * 4)).block, off := (ad.add (k * 4)).off + 3 } = some (.int .i64 y.c)) := Lib.hid (fun W hb => by
    obtain ⟨ad2, y2, had2, hy2, _, hc2⟩ := Reads.elem (f := InstrD.cells) (fun _ => rfl) (HC.out.i.below hb) HC.out.ni.1 hkn
    rw [had] at had2; cases had2; rw [hy] at hy2; cases hy2
    exact ⟨hc2 0 _ (by omega) rfl, hc2 1 _ (by omega) rfl, hc2 2 _ (by omega) rfl, hc2 3 _ (by omega) rfl⟩)
  clear hv hs hk hf H hl W had hbad hE hkc hy
  have y0 := II.out.b.c0; have y1 := II.out.b.c1; have y2 := II.out.b.c2; have y3 := II.out.b.c3; have y4 := II.out.b.c4; have y5 := II.out.b.c5; have y6 := II.out.b.c6; have d0 := II.out.d0; have d1 := II.out.d1; have d2 := II.out.d2; have d3 := II.out.d3
  have hMd : (M = 3) ∨ (M = 2 ∧ (x.c != 0) = false) ∨ (M = 1 ∧ (x.c != 0) = false ∧ (x.b != 0) = false) ∨ (M = 0 ∧ (x.c != 0) = false ∧ (x.b != 0) = false ∧ (x.a != 0) = false) := by
    by_cases e3 : M = 3
    · exact .inl e3
    · have c3 := hz2 (by omega)
      by_cases e2 : M = 2
      · exact .inr (.inl ⟨e2, by simp [c3]⟩)
      · have c2 := hz1' (by omega)
        by_cases e1 : M = 1
        · exact .inr (.inr (.inl ⟨e1, by simp [c3], by simp [c2]⟩))
        · have c1 := hz0 (by omega)
          exact .inr (.inr (.inr ⟨by omega, by simp [c3], by simp [c2], by simp [c1]⟩))
  clear hz2 hz1' hz0 hm0 hm3 hnm
  rcases hMd with rfl | ⟨rfl, e2⟩ | ⟨rfl, e2, e1⟩ | ⟨rfl, e2, e1, e0⟩
  all_goals
    go_enter Tryz.func7, Tryz.ntmps7
    go_wp2_with (first
      | (go_at_call 14; have T := T3; refine (Check_any (hdI h g3 k3) (chg c k x) _ (chg_at HC.out CD.out.xi.b.b CD.out.o)).mono ?_; rintro e w4 ⟨rfl, hb⟩; replace CD := Lib.hid (CD.out.below hb); clear hb; (try clear fz z0 z1 z2 z3 z4 z5 z6 d0 d1 d2 d3 f0 f1 f2 f3 hq0 hq1 hq2 hq3); have d0 := CD.out.xi.d0; have d1 := CD.out.xi.d1; have d2 := CD.out.xi.d2; have d3 := CD.out.xi.d3; have z0 := CD.out.b.c0; have z1 := CD.out.b.c1; have z2 := CD.out.b.c2; have z3 := CD.out.b.c3; have z4 := CD.out.b.c4; have z5 := CD.out.b.c5; have z6 := CD.out.b.c6; simp only [hdI] at z0 z1 z2 z3 z4 z5 z6; rw [(DE.out g3 k3).1, (DE.out g3 k3).2])
      | (go_at_call 12; refine (small_any h c _ (HC.out.at II.out.b.b)).mono ?_; rintro e w1 ⟨rfl, hb⟩; replace II := Lib.hid (II.out.below hb); clear hb; clear y0 y1 y2 y3 y4 y5 y6 d0 d1 d2 d3; have y0 := II.out.b.c0; have y1 := II.out.b.c1; have y2 := II.out.b.c2; have y3 := II.out.b.c3; have y4 := II.out.b.c4; have y5 := II.out.b.c5; have y6 := II.out.b.c6; have d0 := II.out.d0; have d1 := II.out.d1; have d2 := II.out.d2; have d3 := II.out.d3; rw [SMA.out])
      | (go_at_call 14; refine (Check_any h c _ (HC.out.at II.out.b.b)).mono ?_; rintro e w1 ⟨rfl, hb⟩; replace II := Lib.hid (II.out.below hb); clear hb; clear y0 y1 y2 y3 y4 y5 y6 d0 d1 d2 d3; have y0 := II.out.b.c0; have y1 := II.out.b.c1; have y2 := II.out.b.c2; have y3 := II.out.b.c3; have y4 := II.out.b.c4; have y5 := II.out.b.c5; have y6 := II.out.b.c6; have d0 := II.out.d0; have d1 := II.out.d1; have d2 := II.out.d2; have d3 := II.out.d3; rw [CE.out]; obtain ⟨w2, hw2⟩ : ∃ w2 : World, w2 = w1 := ⟨_, rfl⟩; subst hw2; have ya : ∀ o1 o2, ((w2.alloc o1).alloc o2).cell? ⟨w.heap.size, 0, none⟩ = some (.slice (some ad) h.i.n h.i.c) := (fun o1 o2 => by have := ((II.out.b.alloc o1).alloc o2).c0; rw [HAD.out] at this; exact this); have RS : Hid ((c.instrs.flatMap InstrD.cells).length = h.i.n * 4 ∧ ∀ (j : Nat) (u : Value), (c.instrs.flatMap InstrD.cells)[j]? = some u → ((w2.alloc (.cells #[.slice h.i.a h.i.n h.i.c, .slice h.p.a h.p.n h.p.c, .slice h.t.a h.t.n h.t.c, .slice h.s.a h.s.n h.s.c, .slice h.g.a h.g.n h.g.c, .slice h.r.a h.r.n h.r.c, .slice h.o.a h.o.n h.o.c] 30)).alloc (.cells #[] 52)).cell? (ad.add j) = some u) := Lib.hid ⟨HC.out.i.1, (by obtain ⟨ad', he, _, hc⟩ := (HC.out.i.below ((II.out.b.alloc _).alloc _).b).2 h0; rw [HAD.out] at he; cases he; exact hc)⟩)
      | (at_builtin; have T := T3; refine wpList_run elemInstr rfl _ _ rfl (w7.heap.size + 1) _ _ _ rfl (own_lit #[] 0 (w7.heap.size + 1) (by simp) (Nat.le_refl _) (by decide) rfl) ⟨g3, 0, none⟩ h.i.n k3 ((c.instrs.set k x).flatMap InstrD.cells) rfl CD.out.o.1 (((CD.out.o.alloc _).alloc _).cells rfl) (instr_one _) (by omega) (by simp) ?_; intro v6 w6 ho6 hb6; rw [Nat.zero_add, Array.toList_empty, List.nil_append] at ho6; obtain ⟨g6, k6, rfl, hg6⟩ := own_form_pos ho6 h0; have AP2 : Hid (App w.heap.size w7.heap.size g6 k6 h (hdI h g3 k3) x w w6 (c.instrs.set k x)) := Lib.hid { xi := CD.out.xi.to ((((Below.refl _ _).alloc CD.out.xi.z _).alloc (by have := CD.out.xi.z; simp; omega) _).trans (hb6.mono (by have := CD.out.xi.z; omega))), m := CD.out.xi.z, mg := by omega, hm := (hb6.block w7.heap.size (by omega)).trans ((heap_alloc_old _ _ (by simp)).trans (heap_alloc_new w7 _)), o := ho6 }; have CE2 := Lib.hid ((AP2.out.put.set (k := k) (y := y) (by rw [List.length_set]; exact HKC.out)).to ((Below.refl _ _).drew)); clear ho6 hb6 yb d0 d1 d2 d3 z0 z1 z2 z3 z4 z5 z6; have hm6 := AP2.out.hm; have fz := frozen_row (j := 0) hm6; have z0 := cell_of_row w6 w7.heap.size 0 _ 30 (0, 0) hm6; have y0 := AP2.out.xi.b.c0; rw [HAD.out] at y0; have PT := Lib.hid (show Chd w.heap.size w7.heap.size g6 k6 h (hdI h g3 k3) x w (w6.setCell ⟨w7.heap.size, 0, none⟩ (.slice (some ⟨g6, 0, none⟩) h.i.n k6)) (c.instrs.set k x) from AP2.out.put); obtain ⟨c0, c1, c2, c3⟩ := HCC.out _ PT.out.xi.b.b; have f0 := PT.out.o.frozenAt (k * 4); have f1 := PT.out.o.frozenAt (k * 4 + 1); have f2 := PT.out.o.frozenAt (k * 4 + 2); have f3 := PT.out.o.frozenAt (k * 4 + 3); obtain ⟨q0, hq0⟩ := PT.out.cell (k * 4) (by show _ < h.i.n * 4; omega); obtain ⟨q1, hq1⟩ := PT.out.cell (k * 4 + 1) (by show _ < h.i.n * 4; omega); obtain ⟨q2, hq2⟩ := PT.out.cell (k * 4 + 2) (by show _ < h.i.n * 4; omega); obtain ⟨q3, hq3⟩ := PT.out.cell (k * 4 + 3) (by show _ < h.i.n * 4; omega); have hne5 : w7.heap.size ≠ g6 := (by omega); have hne6 : g6 ≠ w7.heap.size := (by omega); have hne7 : w7.heap.size ≠ w.heap.size := (by have := AP2.out.m; omega); have hne8 : ad.block ≠ w7.heap.size := (by have := HADB.out; have := AP2.out.m; omega); clear hm6)
      | (at_builtin; refine wpList_run elemInstr rfl _ _ rfl (w2.heap.size + 1) _ _ _ rfl (own_lit #[] 0 (w2.heap.size + 1) (by simp) (Nat.le_refl _) (by decide) rfl) ad h.i.n h.i.c (c.instrs.flatMap InstrD.cells) rfl RS.out.1 RS.out.2 (instr_one _) (by omega) (by simp) ?_; intro v3 w3 ho3 hb3; rw [Nat.zero_add, Array.toList_empty, List.nil_append] at ho3; obtain ⟨g3, k3, rfl, hg3⟩ := own_form_pos ho3 h0; have AP : Hid (App w.heap.size w2.heap.size g3 k3 h h x w w3 c.instrs) := Lib.hid { xi := II.out.to ((((Below.refl _ _).alloc II.out.z _).alloc (by have := II.out.z; simp; omega) _).trans (hb3.mono (by have := II.out.z; omega))), m := II.out.z, mg := by omega, hm := (hb3.block w2.heap.size (by omega)).trans ((heap_alloc_old _ _ (by simp)).trans (heap_alloc_new w2 _)), o := ho3 }; have CD := Lib.hid (AP.out.put.set (y := x) HKC.out); clear ho3 hb3 ya y0 y1 y2 y3 y4 y5 y6 d0 d1 d2 d3; have T3 : True := trivial; have II3 := AP.out.xi; have hm3 := AP.out.hm; have fz := frozen_row (j := 0) hm3; have z0 := cell_of_row w3 w2.heap.size 0 _ 30 (0, 0) hm3; have z1 := cell_of_row w3 w2.heap.size 1 _ 30 (0, 0) hm3; have z2 := cell_of_row w3 w2.heap.size 2 _ 30 (0, 0) hm3; have z3 := cell_of_row w3 w2.heap.size 3 _ 30 (0, 0) hm3; have z4 := cell_of_row w3 w2.heap.size 4 _ 30 (0, 0) hm3; have z5 := cell_of_row w3 w2.heap.size 5 _ 30 (0, 0) hm3; have z6 := cell_of_row w3 w2.heap.size 6 _ 30 (0, 0) hm3; have d0 := II3.d0; have d1 := II3.d1; have d2 := II3.d2; have d3 := II3.d3; have f0 := AP.out.o.frozenAt (k * 4); have f1 := AP.out.o.frozenAt (k * 4 + 1); have f2 := AP.out.o.frozenAt (k * 4 + 2); have f3 := AP.out.o.frozenAt (k * 4 + 3); obtain ⟨q0, hq0⟩ := AP.out.cell (k * 4) (by omega); obtain ⟨q1, hq1⟩ := AP.out.cell (k * 4 + 1) (by omega); obtain ⟨q2, hq2⟩ := AP.out.cell (k * 4 + 2) (by omega); obtain ⟨q3, hq3⟩ := AP.out.cell (k * 4 + 3) (by omega); have hne1 : w2.heap.size ≠ g3 := (by omega); have hne2 : g3 ≠ w2.heap.size := (by omega); have hne3 : w2.heap.size ≠ w.heap.size + 1 := (by have := AP.out.m; omega); have hne4 : g3 ≠ w.heap.size + 1 := (by have := AP.out.m; omega); have hki0 : (0 : Int) ≤ (k : Int) := (by omega); have hki1 : (k : Int) < (h.i.n : Int) := (by omega); clear hm3 II3)
      | (go_at_call 25; refine (Name_any x.op _).mono ?_; rintro e w5 ⟨rfl, hb⟩; replace CD := Lib.hid (CD.out.below hb); clear hb; clear d0 d1 d2 d3 z0 z1 z2 z3 z4 z5 z6; have d0 := CD.out.xi.d0; have d1 := CD.out.xi.d1; have d2 := CD.out.xi.d2; have d3 := CD.out.xi.d3; have z0 := CD.out.b.c0; have z1 := CD.out.b.c1; have z2 := CD.out.b.c2; have z3 := CD.out.b.c3; have z4 := CD.out.b.c4; have z5 := CD.out.b.c5; have z6 := CD.out.b.c6; simp only [hdI] at z0 z1 z2 z3 z4 z5 z6; rw [HOP.out, if_pos rfl, HT.out])
      | (go_at_call 26; refine (Operands_any x.op _).mono ?_; rintro e w7 ⟨rfl, hb⟩; replace CD := Lib.hid (CD.out.below hb); clear hb; clear d0 d1 d2 d3 z0 z1 z2 z3 z4 z5 z6; have d0 := CD.out.xi.d0; have d1 := CD.out.xi.d1; have d2 := CD.out.xi.d2; have d3 := CD.out.xi.d3; have z0 := CD.out.b.c0; have z1 := CD.out.b.c1; have z2 := CD.out.b.c2; have z3 := CD.out.b.c3; have z4 := CD.out.b.c4; have z5 := CD.out.b.c5; have z6 := CD.out.b.c6; simp only [hdI] at z0 z1 z2 z3 z4 z5 z6; have yb : ∀ o1 o2, ((w7.alloc o1).alloc o2).cell? ⟨w2.heap.size, 0, none⟩ = some (.slice (some ⟨g3, 0, none⟩) h.i.n k3) := (fun o1 o2 => by have := (CD.out.b.to (((Below.refl _ _).alloc CD.out.b.z o1).alloc (by have := CD.out.b.z; simp; omega) o2)).c0; simp only [hdI] at this; exact this); rw [HOP.out, if_pos rfl, if_pos rfl, HM.out]))
    refine wp_region_still_tail 9 (by kernel_rfl) (by kernel_rfl) ?_
    simp only [List.take_succ_cons, List.take_zero, List.drop_succ_cons, List.drop_zero]
    change wpStill _ _ (World.drew _) _ _ _
    repeat still_step
    refine wpStill_nil ?_
    change wpList _ _ _ _ _ (World.drew _)
    go_wp2_with (first
      | (go_at_call 13; refine (sanity_ok _ (HV.out.at CE2.out.xi.b.b CE2.out.xi.b.b.size)).mono ?_; rintro e w8 ⟨rfl, hb⟩; have CF := Lib.hid (CE2.out.below hb); clear hb; clear fz z0 y0 c0 c1 c2 c3 f0 f1 f2 f3 hq0 hq1 hq2 hq3; have z0 := CF.out.b.c0; have z1 := CF.out.b.c1; have z2 := CF.out.b.c2; have z3 := CF.out.b.c3; have z4 := CF.out.b.c4; have z5 := CF.out.b.c5; have z6 := CF.out.b.c6; simp only [hdI] at z0 z1 z2 z3 z4 z5 z6; have y0 := CF.out.xi.b.c0; have y1 := CF.out.xi.b.c1; have y2 := CF.out.xi.b.c2; have y3 := CF.out.xi.b.c3; have y4 := CF.out.xi.b.c4; have y5 := CF.out.xi.b.c5; have y6 := CF.out.xi.b.c6)
      | (go_at_call 16; refine (Same_any (hdI h g6 k6) h c c _ (back_at HC.out CF.out.xi.b.b (by have := CF.out.o; rw [chg_back HY.out] at this; exact this)) (HC.out.at CF.out.xi.b.b)).mono ?_; rintro e w9 ⟨rfl, hb⟩; replace CF := Lib.hid (CF.out.below hb); clear hb; rw [same_refl]))
    go_ret
    exact ⟨rfl, CF.out.xi.b.b⟩
set_option maxHeartbeats 8000000 in
theorem CodeChanges_bad (h : CodeH) (c : CodeD) (n k : Nat) (x : InstrD) (w : World) (H : CodeAt w w.heap.size h c) (hv : Vars w.heap.size w) (hs : smallB c = true) (h0 : 0 < h.i.n) (hk : n % h.i.n = k) (hf : fineB c (largeB h) = true) (E : Int) (hE : insErr c x = E) (h13 : E = 1 ∨ E = 3) :
    Calls Tryz.prog 7 #[.agg #[.slice h.i.a h.i.n h.i.c, .slice h.p.a h.p.n h.p.c, .slice h.t.a h.t.n h.t.c, .slice h.s.a h.s.n h.s.c, .slice h.g.a h.g.n h.g.c, .slice h.r.a h.r.n h.r.c, .slice h.o.a h.o.n h.o.c], .int .i64 n, .agg #[.int .i64 x.op, .int .i64 x.a, .int .i64 x.b, .int .i64 x.c]] w fun e w' => e = .returned (.bool true) ∧ Below w.heap.size w w' := by
  have HC := Lib.hid H
  have HV := Lib.hid hv
  have HN := Lib.hid H.ni.1
  have II := Lib.hid (XInv.start h x w)
  have SMA := Lib.hid hs
  obtain ⟨hl, W⟩ := fine_well hf
  obtain ⟨_, hn1, _⟩ := large_sizes hl
  have hz1 : ((h.i.n : Int) == 0) = false := by simp; omega
  have CE : Hid (chkErr c (largeB h) = 0) := Lib.hid (by unfold fineB at hf; simpa using hf)
  have hkn : k < h.i.n := by rw [← hk]; exact Nat.mod_lt _ h0
  have hk2 : (n : Int) % (h.i.n : Int) = (k : Int) := by rw [← hk]; exact (Int.natCast_emod n h.i.n).symm
  obtain ⟨ad, had⟩ : ∃ ad, h.i.a = some ad := (H.i.2 h0).elim fun ad hh => ⟨ad, hh.1⟩
  have HAD := Lib.hid had
  have HW := Lib.hid W
  have hkc : k < c.instrs.length := by rw [← HN.out]; exact hkn
  have hbad := chg_bad W hkc (x := x) (by rw [hE]; omega)
  rw [hE] at hbad
  have DE : Hid (∀ g cap, chkErr (chg c k x) (largeB (hdI h g cap)) = E ∧ chkAt (chg c k x) (largeB (hdI h g cap)) = (k : Int)) := Lib.hid (fun g cap => by rw [show largeB (hdI h g cap) = false from hl]; exact hbad)
  have HKC := Lib.hid hkc
  clear hv hs hk hf H hl W had hbad hE hkc
  have y0 := II.out.b.c0; have y1 := II.out.b.c1; have y2 := II.out.b.c2; have y3 := II.out.b.c3; have y4 := II.out.b.c4; have y5 := II.out.b.c5; have y6 := II.out.b.c6; have d0 := II.out.d0; have d1 := II.out.d1; have d2 := II.out.d2; have d3 := II.out.d3
  rcases h13 with rfl | rfl
  all_goals
    go_enter Tryz.func7, Tryz.ntmps7
    go_wp2_with (first
      | (go_at_call 14; have T := T3; refine (Check_any (hdI h g3 k3) (chg c k x) _ (chg_at HC.out CD.out.xi.b.b CD.out.o)).mono ?_; rintro e w4 ⟨rfl, hb⟩; replace CD := Lib.hid (CD.out.below hb); clear hb; (try clear fz z0 z1 z2 z3 z4 z5 z6 d0 d1 d2 d3 f0 f1 f2 f3 hq0 hq1 hq2 hq3); rw [(DE.out g3 k3).1, (DE.out g3 k3).2])
      | (go_at_call 12; refine (small_any h c _ (HC.out.at II.out.b.b)).mono ?_; rintro e w1 ⟨rfl, hb⟩; replace II := Lib.hid (II.out.below hb); clear hb; clear y0 y1 y2 y3 y4 y5 y6 d0 d1 d2 d3; have y0 := II.out.b.c0; have y1 := II.out.b.c1; have y2 := II.out.b.c2; have y3 := II.out.b.c3; have y4 := II.out.b.c4; have y5 := II.out.b.c5; have y6 := II.out.b.c6; have d0 := II.out.d0; have d1 := II.out.d1; have d2 := II.out.d2; have d3 := II.out.d3; rw [SMA.out])
      | (go_at_call 14; refine (Check_any h c _ (HC.out.at II.out.b.b)).mono ?_; rintro e w1 ⟨rfl, hb⟩; replace II := Lib.hid (II.out.below hb); clear hb; clear y0 y1 y2 y3 y4 y5 y6 d0 d1 d2 d3; have y0 := II.out.b.c0; have y1 := II.out.b.c1; have y2 := II.out.b.c2; have y3 := II.out.b.c3; have y4 := II.out.b.c4; have y5 := II.out.b.c5; have y6 := II.out.b.c6; have d0 := II.out.d0; have d1 := II.out.d1; have d2 := II.out.d2; have d3 := II.out.d3; rw [CE.out]; obtain ⟨w2, hw2⟩ : ∃ w2 : World, w2 = w1 := ⟨_, rfl⟩; subst hw2; have ya : ∀ o1 o2, ((w2.alloc o1).alloc o2).cell? ⟨w.heap.size, 0, none⟩ = some (.slice (some ad) h.i.n h.i.c) := (fun o1 o2 => by have := ((II.out.b.alloc o1).alloc o2).c0; rw [HAD.out] at this; exact this); have RS : Hid ((c.instrs.flatMap InstrD.cells).length = h.i.n * 4 ∧ ∀ (j : Nat) (u : Value), (c.instrs.flatMap InstrD.cells)[j]? = some u → ((w2.alloc (.cells #[.slice h.i.a h.i.n h.i.c, .slice h.p.a h.p.n h.p.c, .slice h.t.a h.t.n h.t.c, .slice h.s.a h.s.n h.s.c, .slice h.g.a h.g.n h.g.c, .slice h.r.a h.r.n h.r.c, .slice h.o.a h.o.n h.o.c] 30)).alloc (.cells #[] 52)).cell? (ad.add j) = some u) := Lib.hid ⟨HC.out.i.1, (by obtain ⟨ad', he, _, hc⟩ := (HC.out.i.below ((II.out.b.alloc _).alloc _).b).2 h0; rw [HAD.out] at he; cases he; exact hc)⟩)
      | (at_builtin; refine wpList_run elemInstr rfl _ _ rfl (w2.heap.size + 1) _ _ _ rfl (own_lit #[] 0 (w2.heap.size + 1) (by simp) (Nat.le_refl _) (by decide) rfl) ad h.i.n h.i.c (c.instrs.flatMap InstrD.cells) rfl RS.out.1 RS.out.2 (instr_one _) (by omega) (by simp) ?_; intro v3 w3 ho3 hb3; rw [Nat.zero_add, Array.toList_empty, List.nil_append] at ho3; obtain ⟨g3, k3, rfl, hg3⟩ := own_form_pos ho3 h0; have AP : Hid (App w.heap.size w2.heap.size g3 k3 h h x w w3 c.instrs) := Lib.hid { xi := II.out.to ((((Below.refl _ _).alloc II.out.z _).alloc (by have := II.out.z; simp; omega) _).trans (hb3.mono (by have := II.out.z; omega))), m := II.out.z, mg := by omega, hm := (hb3.block w2.heap.size (by omega)).trans ((heap_alloc_old _ _ (by simp)).trans (heap_alloc_new w2 _)), o := ho3 }; have CD := Lib.hid (AP.out.put.set (y := x) HKC.out); clear ho3 hb3 ya y0 y1 y2 y3 y4 y5 y6 d0 d1 d2 d3; have T3 : True := trivial; have II3 := AP.out.xi; have hm3 := AP.out.hm; have fz := frozen_row (j := 0) hm3; have z0 := cell_of_row w3 w2.heap.size 0 _ 30 (0, 0) hm3; have z1 := cell_of_row w3 w2.heap.size 1 _ 30 (0, 0) hm3; have z2 := cell_of_row w3 w2.heap.size 2 _ 30 (0, 0) hm3; have z3 := cell_of_row w3 w2.heap.size 3 _ 30 (0, 0) hm3; have z4 := cell_of_row w3 w2.heap.size 4 _ 30 (0, 0) hm3; have z5 := cell_of_row w3 w2.heap.size 5 _ 30 (0, 0) hm3; have z6 := cell_of_row w3 w2.heap.size 6 _ 30 (0, 0) hm3; have d0 := II3.d0; have d1 := II3.d1; have d2 := II3.d2; have d3 := II3.d3; have f0 := AP.out.o.frozenAt (k * 4); have f1 := AP.out.o.frozenAt (k * 4 + 1); have f2 := AP.out.o.frozenAt (k * 4 + 2); have f3 := AP.out.o.frozenAt (k * 4 + 3); obtain ⟨q0, hq0⟩ := AP.out.cell (k * 4) (by omega); obtain ⟨q1, hq1⟩ := AP.out.cell (k * 4 + 1) (by omega); obtain ⟨q2, hq2⟩ := AP.out.cell (k * 4 + 2) (by omega); obtain ⟨q3, hq3⟩ := AP.out.cell (k * 4 + 3) (by omega); have hne1 : w2.heap.size ≠ g3 := (by omega); have hne2 : g3 ≠ w2.heap.size := (by omega); have hne3 : w2.heap.size ≠ w.heap.size + 1 := (by have := AP.out.m; omega); have hne4 : g3 ≠ w.heap.size + 1 := (by have := AP.out.m; omega); have hki0 : (0 : Int) ≤ (k : Int) := (by omega); have hki1 : (k : Int) < (h.i.n : Int) := (by omega); clear hm3 II3)
      | (go_at_call 13; refine (sanity_ok _ (HV.out.at CD.out.xi.b.b CD.out.xi.b.b.size)).mono ?_; rintro e w5 ⟨rfl, hb⟩; replace CD := Lib.hid (CD.out.below hb); clear hb))
    go_ret
    exact ⟨rfl, CD.out.xi.b.b⟩
set_option maxHeartbeats 8000000 in
theorem CodeChanges_any (h : CodeH) (c : CodeD) (n : Int) (x : InstrD) (w : World) (H : CodeAt w w.heap.size h c) (hv : Vars w.heap.size w) :
    Calls Tryz.prog 7 #[.agg #[.slice h.i.a h.i.n h.i.c, .slice h.p.a h.p.n h.p.c, .slice h.t.a h.t.n h.t.c, .slice h.s.a h.s.n h.s.c, .slice h.g.a h.g.n h.g.c, .slice h.r.a h.r.n h.r.c, .slice h.o.a h.o.n h.o.c], .int .i64 n, .agg #[.int .i64 x.op, .int .i64 x.a, .int .i64 x.b, .int .i64 x.c]] w fun e w' => e = .returned (.bool true) ∧ Below w.heap.size w w' := by
  by_cases hd : smallB c = true ∧ 0 < h.i.n ∧ 0 ≤ n ∧ fineB c (largeB h) = true
  · obtain ⟨hs, h0, hn, hf⟩ := hd
    obtain ⟨m, rfl⟩ : ∃ m : Nat, n = m := ⟨n.toNat, by omega⟩
    rcases ins_13 c x with h1 | h1 | h1
    · exact CodeChanges_good h c m (m % h.i.n) x w H hv hs h0 rfl hf h1
    · exact CodeChanges_bad h c m (m % h.i.n) x w H hv hs h0 rfl hf 1 h1 (.inl rfl)
    · exact CodeChanges_bad h c m (m % h.i.n) x w H hv hs h0 rfl hf 3 h1 (.inr rfl)
  · have hd' : smallB c = false ∨ (smallB c = true ∧ h.i.n = 0) ∨ (smallB c = true ∧ 0 < h.i.n ∧ n < 0) ∨ (smallB c = true ∧ 0 < h.i.n ∧ 0 ≤ n ∧ chkErr c (largeB h) ≠ 0) := by
      cases sa : smallB c with
      | false => exact .inl rfl
      | true =>
        rcases Nat.eq_zero_or_pos h.i.n with hz | hz
        · exact .inr (.inl ⟨rfl, hz⟩)
        · by_cases hn : n < 0
          · exact .inr (.inr (.inl ⟨rfl, hz, hn⟩))
          · refine .inr (.inr (.inr ⟨rfl, hz, by omega, fun he => hd ⟨sa, hz, by omega, ?_⟩⟩))
            unfold fineB
            rw [he]; rfl
    have HC := Lib.hid H
    have HV := Lib.hid hv
    have II := Lib.hid (XInv.start h x w)
    clear hv hd H
    have y0 := II.out.b.c0; have y1 := II.out.b.c1; have y2 := II.out.b.c2; have y3 := II.out.b.c3; have y4 := II.out.b.c4; have y5 := II.out.b.c5; have y6 := II.out.b.c6; have d0 := II.out.d0; have d1 := II.out.d1; have d2 := II.out.d2; have d3 := II.out.d3
    rcases hd' with sa | ⟨sa, hz⟩ | ⟨sa, h0, hn⟩ | ⟨sa, h0, hn, hE⟩
    · have SMA := Lib.hid sa
      clear sa
      go_enter Tryz.func7, Tryz.ntmps7
      go_wp2_with (first
        | (go_at_call 12; refine (small_any h c _ (HC.out.at II.out.b.b)).mono ?_; rintro e w1 ⟨rfl, hb⟩; replace II := Lib.hid (II.out.below hb); clear hb; clear y0 y1 y2 y3 y4 y5 y6 d0 d1 d2 d3; have y0 := II.out.b.c0; have y1 := II.out.b.c1; have y2 := II.out.b.c2; have y3 := II.out.b.c3; have y4 := II.out.b.c4; have y5 := II.out.b.c5; have y6 := II.out.b.c6; have d0 := II.out.d0; have d1 := II.out.d1; have d2 := II.out.d2; have d3 := II.out.d3; rw [SMA.out])
        | (go_at_call 13; refine (sanity_ok _ (HV.out.at II.out.b.b II.out.b.b.size)).mono ?_; rintro e w1 ⟨rfl, hb⟩; replace II := Lib.hid (II.out.below hb); clear hb; clear y0 y1 y2 y3 y4 y5 y6 d0 d1 d2 d3; have y0 := II.out.b.c0; have y1 := II.out.b.c1; have y2 := II.out.b.c2; have y3 := II.out.b.c3; have y4 := II.out.b.c4; have y5 := II.out.b.c5; have y6 := II.out.b.c6; have d0 := II.out.d0; have d1 := II.out.d1; have d2 := II.out.d2; have d3 := II.out.d3))
      go_ret
      exact ⟨rfl, II.out.b.b⟩
    · have SMA := Lib.hid sa
      have hz1 : ((h.i.n : Int) == 0) = true := by rw [hz]; rfl
      clear sa hz
      go_enter Tryz.func7, Tryz.ntmps7
      go_wp2_with (first
        | (go_at_call 12; refine (small_any h c _ (HC.out.at II.out.b.b)).mono ?_; rintro e w1 ⟨rfl, hb⟩; replace II := Lib.hid (II.out.below hb); clear hb; clear y0 y1 y2 y3 y4 y5 y6 d0 d1 d2 d3; have y0 := II.out.b.c0; have y1 := II.out.b.c1; have y2 := II.out.b.c2; have y3 := II.out.b.c3; have y4 := II.out.b.c4; have y5 := II.out.b.c5; have y6 := II.out.b.c6; have d0 := II.out.d0; have d1 := II.out.d1; have d2 := II.out.d2; have d3 := II.out.d3; rw [SMA.out])
        | (go_at_call 13; refine (sanity_ok _ (HV.out.at II.out.b.b II.out.b.b.size)).mono ?_; rintro e w1 ⟨rfl, hb⟩; replace II := Lib.hid (II.out.below hb); clear hb; clear y0 y1 y2 y3 y4 y5 y6 d0 d1 d2 d3; have y0 := II.out.b.c0; have y1 := II.out.b.c1; have y2 := II.out.b.c2; have y3 := II.out.b.c3; have y4 := II.out.b.c4; have y5 := II.out.b.c5; have y6 := II.out.b.c6; have d0 := II.out.d0; have d1 := II.out.d1; have d2 := II.out.d2; have d3 := II.out.d3))
      go_ret
      exact ⟨rfl, II.out.b.b⟩
    · have SMA := Lib.hid sa
      have hz1 : ((h.i.n : Int) == 0) = false := by simp; omega
      clear sa
      go_enter Tryz.func7, Tryz.ntmps7
      go_wp2_with (first
        | (go_at_call 12; refine (small_any h c _ (HC.out.at II.out.b.b)).mono ?_; rintro e w1 ⟨rfl, hb⟩; replace II := Lib.hid (II.out.below hb); clear hb; clear y0 y1 y2 y3 y4 y5 y6 d0 d1 d2 d3; have y0 := II.out.b.c0; have y1 := II.out.b.c1; have y2 := II.out.b.c2; have y3 := II.out.b.c3; have y4 := II.out.b.c4; have y5 := II.out.b.c5; have y6 := II.out.b.c6; have d0 := II.out.d0; have d1 := II.out.d1; have d2 := II.out.d2; have d3 := II.out.d3; rw [SMA.out])
        | (go_at_call 13; refine (sanity_ok _ (HV.out.at II.out.b.b II.out.b.b.size)).mono ?_; rintro e w1 ⟨rfl, hb⟩; replace II := Lib.hid (II.out.below hb); clear hb; clear y0 y1 y2 y3 y4 y5 y6 d0 d1 d2 d3; have y0 := II.out.b.c0; have y1 := II.out.b.c1; have y2 := II.out.b.c2; have y3 := II.out.b.c3; have y4 := II.out.b.c4; have y5 := II.out.b.c5; have y6 := II.out.b.c6; have d0 := II.out.d0; have d1 := II.out.d1; have d2 := II.out.d2; have d3 := II.out.d3))
      go_ret
      exact ⟨rfl, II.out.b.b⟩
    · have SMA := Lib.hid sa
      have hz1 : ((h.i.n : Int) == 0) = false := by simp; omega
      have hE1 : (chkErr c (largeB h) != 0) = true := by simpa using hE
      clear sa hE
      go_enter Tryz.func7, Tryz.ntmps7
      go_wp2_with (first
        | (go_at_call 12; refine (small_any h c _ (HC.out.at II.out.b.b)).mono ?_; rintro e w1 ⟨rfl, hb⟩; replace II := Lib.hid (II.out.below hb); clear hb; clear y0 y1 y2 y3 y4 y5 y6 d0 d1 d2 d3; have y0 := II.out.b.c0; have y1 := II.out.b.c1; have y2 := II.out.b.c2; have y3 := II.out.b.c3; have y4 := II.out.b.c4; have y5 := II.out.b.c5; have y6 := II.out.b.c6; have d0 := II.out.d0; have d1 := II.out.d1; have d2 := II.out.d2; have d3 := II.out.d3; rw [SMA.out])
        | (go_at_call 14; refine (Check_any h c _ (HC.out.at II.out.b.b)).mono ?_; rintro e w1 ⟨rfl, hb⟩; replace II := Lib.hid (II.out.below hb); clear hb; clear y0 y1 y2 y3 y4 y5 y6 d0 d1 d2 d3; have y0 := II.out.b.c0; have y1 := II.out.b.c1; have y2 := II.out.b.c2; have y3 := II.out.b.c3; have y4 := II.out.b.c4; have y5 := II.out.b.c5; have y6 := II.out.b.c6; have d0 := II.out.d0; have d1 := II.out.d1; have d2 := II.out.d2; have d3 := II.out.d3)
        | (go_at_call 13; refine (sanity_ok _ (HV.out.at II.out.b.b II.out.b.b.size)).mono ?_; rintro e w1 ⟨rfl, hb⟩; replace II := Lib.hid (II.out.below hb); clear hb; clear y0 y1 y2 y3 y4 y5 y6 d0 d1 d2 d3; have y0 := II.out.b.c0; have y1 := II.out.b.c1; have y2 := II.out.b.c2; have y3 := II.out.b.c3; have y4 := II.out.b.c4; have y5 := II.out.b.c5; have y6 := II.out.b.c6; have d0 := II.out.d0; have d1 := II.out.d1; have d2 := II.out.d2; have d3 := II.out.d3))
      go_ret
      exact ⟨rfl, II.out.b.b⟩
end Go.Proofs.YtmfnholhhakgaaaGreatDoor
