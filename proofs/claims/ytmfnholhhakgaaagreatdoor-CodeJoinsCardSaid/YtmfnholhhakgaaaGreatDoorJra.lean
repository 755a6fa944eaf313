/- The reference of chapter 14: base, shift, moved: contracts. -/
import Derived.Test.YtmfnholhhakgaaaGreatDoorRfc
import Derived.Test.YtmfnholhhakgaaaGreatDoorWjn
import Derived.Deep.RegionHeld3
import Derived.Deep.RegionWith
import Derived.StillTailTactics
namespace Go.Proofs.YtmfnholhhakgaaaGreatDoor
open Go Go.Proofs Go.RowKit Go.Sort
set_option maxRecDepth 100000
set_option maxHeartbeats 8000000
theorem rbase_any (L : Int) (hL : L ∈ letters) (h : CodeH) (w : World) : Calls Tryz.prog 113 #[.agg #[.slice h.i.a h.i.n h.i.c, .slice h.p.a h.p.n h.p.c, .slice h.t.a h.t.n h.t.c, .slice h.s.a h.s.n h.s.c, .slice h.g.a h.g.n h.g.c, .slice h.r.a h.r.n h.r.c, .slice h.o.a h.o.n h.o.c], .int .u8 L] w fun e w' => e = .returned (.int .i64 (shiftN h (letNo L : Nat) : Nat)) ∧ Below w.heap.size w w' := by
  have hb : ∀ o, Below w.heap.size w (w.alloc o) := fun o => (Below.refl w.heap.size w).alloc (Nat.le_refl _) o
  have HB := Lib.hid hb
  clear hb
  simp only [letters, List.mem_cons, List.not_mem_nil, or_false] at hL
  rcases hL with rfl | rfl | rfl | rfl | rfl | rfl | rfl | rfl | rfl | rfl | rfl | rfl | rfl | rfl | rfl | rfl | rfl | rfl | rfl | rfl | rfl | rfl | rfl | rfl
  all_goals
    go_enter Tryz.func113, Tryz.ntmps113
    go_wp2
    go_ret
    exact ⟨rfl, HB.out _⟩
theorem rshift_any (h : CodeH) (n : Int) (w : World) (hn : n ≤ 1000000) (hI : h.i.n ≤ 1000000) : Calls Tryz.prog 66 #[.agg #[.slice h.i.a h.i.n h.i.c, .slice h.p.a h.p.n h.p.c, .slice h.t.a h.t.n h.t.c, .slice h.s.a h.s.n h.s.c, .slice h.g.a h.g.n h.g.c, .slice h.r.a h.r.n h.r.c, .slice h.o.a h.o.n h.o.c], .int .i64 n] w fun e w' => e = .returned (.int .i64 (mv h.i.n n)) ∧ Below w.heap.size w w' := by
  have hb : ∀ o, Below w.heap.size w (w.alloc o) := fun o => (Below.refl w.heap.size w).alloc (Nat.le_refl _) o
  have HB := Lib.hid hb
  clear hb
  by_cases h0 : n < 0
  · have HM := Lib.hid (mv_neg (I := h.i.n) h0)
    go_enter Tryz.func66, Tryz.ntmps66
    go_wp2
    go_ret
    exact ⟨ret_int (by rw [HM.out]), HB.out _⟩
  · have HM := Lib.hid (mv_pos (I := h.i.n) h0)
    have h1 : 0 ≤ n := by omega
    go_enter Tryz.func66, Tryz.ntmps66
    go_wp2
    go_ret
    exact ⟨ret_int (by rw [HM.out]), HB.out _⟩
/-- The operands, the first m of them moved. -/
def opsM (h : CodeH) (x : InstrD) (m : Nat) : List Int := (List.range 3).map fun j => if j < m then operandOf (shI h x) j else operandOf x j
theorem opsM_at (h : CodeH) (x : InstrD) (m j : Nat) (hj : j < 3) : (opsM h x m)[j]? = some (if j < m then operandOf (shI h x) j else operandOf x j) := by
  unfold opsM
  rw [List.getElem?_map, List.getElem?_range hj]
  rfl
theorem opsM_set (h : CodeH) (x : InstrD) (m : Nat) (_hm : m < 3) : (opsM h x m).set m (operandOf (shI h x) m) = opsM h x (m + 1) := by
  apply List.ext_getElem?
  intro j
  by_cases hj : j < 3
  · rw [opsM_at h x (m + 1) j hj]
    by_cases e : m = j
    · subst e
      rw [List.getElem?_set_self (by simp [opsM]; omega), if_pos (by omega)]
    · rw [List.getElem?_set_ne e, opsM_at h x m j hj]
      congr 1
      by_cases h1 : j < m
      · rw [if_pos h1, if_pos (by omega)]
      · rw [if_neg h1, if_neg (by omega)]
  · rw [List.getElem?_eq_none (by simp [opsM]; omega), List.getElem?_eq_none (by simp [opsM]; omega)]
theorem sh_operand (h : CodeH) (x : InstrD) (j : Nat) (hj : j < 3) (_ho : opIs x.op = true) : operandOf (shI h x) j = operandOf x j + (shiftN h (opKi j x.op : Nat) : Nat) := by
  obtain ⟨e0, e1, e2⟩ := opKs x.op
  match j, hj with
  | 0, _ => show x.a + _ = x.a + _; rw [show ((opKi 0 x.op : Nat) : Int) = opK0 x.op from e0]
  | 1, _ => show x.b + _ = x.b + _; rw [show ((opKi 1 x.op : Nat) : Int) = opK1 x.op from e1]
  | 2, _ => show x.c + _ = x.c + _; rw [show ((opKi 2 x.op : Nat) : Int) = opK2 x.op from e2]
theorem opsM_end (h : CodeH) (x : InstrD) (t : Nat) (ho : opIs x.op = true) (hz : ∀ i, i < 3 → ¬ i < t → opKi i x.op = 0) : opsM h x t = [(shI h x).a, (shI h x).b, (shI h x).c] := by
  have key : ∀ j, j < 3 → (if j < t then operandOf (shI h x) j else operandOf x j) = operandOf (shI h x) j := fun j hj => by
    by_cases hl : j < t
    · rw [if_pos hl]
    · rw [if_neg hl, sh_operand h x j hj ho, hz j hj hl]
      show _ = operandOf x j + ((0 : Nat) : Int)
      simp
  have := key 0 (by omega)
  have := key 1 (by omega)
  have := key 2 (by omega)
  show [_, _, _] = _
  simp only [*]
  rfl
/-- At the loop's head: the boxes, the result's, the operands in block G. -/
structure RmI (N G : Nat) (h : CodeH) (x : InstrD) (w wr : World) (m : Nat) : Prop where
  b : XInv N h x w wr
  g : N + 2 < G
  r : wr.heap[N + 2]? = some (.cells #[.int .i64 0, .int .i64 0, .int .i64 0, .int .i64 0] 52 (0, 0))
  n : wr.ownsRow G 3 1 (.slice (some ⟨G, 0, none⟩) 3 3) 3 (intCells (opsM h x m))
theorem RmI.below {N G m : Nat} {h : CodeH} {x : InstrD} {w wr wx : World} (H : RmI N G h x w wr m) (hb : Below wr.heap.size wr wx) : RmI N G h x w wx m :=
  { b := H.b.below hb, g := H.g, r := (hb.block _ (Array.getElem?_eq_some_iff.1 H.r).1).trans H.r, n := own_below H.n hb }
theorem RmI.drew {N G m : Nat} {h : CodeH} {x : InstrD} {w wr : World} (H : RmI N G h x w wr m) : RmI N G h x w wr.drew m := H.below ((Below.refl _ _).drew)
theorem RmI.cm {N G m : Nat} {h : CodeH} {x : InstrD} {w wr : World} {v : Int} (H : RmI N G h x w wr m) (hm : m < 3) (hv : operandOf x m = v) : wr.cell? ⟨G, m, none⟩ = some (.int .i64 v) := by
  rw [H.n.cellAt m (by omega), intCells, List.getElem?_map, opsM_at h x m m hm, if_neg (by omega), hv]
  rfl
theorem RmI.step {N G m : Nat} {h : CodeH} {x : InstrD} {w wr : World} {v : Int} (H : RmI N G h x w wr m) (hm : m < 3) (hv : operandOf (shI h x) m = v) : RmI N G h x w (wr.setCell ⟨G, m, none⟩ (.int .i64 v)) (m + 1) := by
  obtain ⟨h1, _⟩ := H.n.stored m (.int .i64 v)
  have hb : Below G wr (wr.setCell ⟨G, m, none⟩ (.int .i64 v)) := (Below.refl _ _).setCell (Nat.le_refl G) _
  refine { b := H.b.to (hb.mono (Nat.le_of_lt H.g)), g := H.g, r := (hb.block _ H.g).trans H.r, n := ?_ }
  rw [← opsM_set h x m hm, hv, intCells, List.map_set]
  exact h1
theorem rmoved_any (h : CodeH) (x : InstrD) (w : World) (ho : opIs x.op = true) (hl : largeB h = false) (hbd : (-2147483647 ≤ x.a ∧ x.a ≤ 2147483647) ∧ (-2147483647 ≤ x.b ∧ x.b ≤ 2147483647) ∧ (-2147483647 ≤ x.c ∧ x.c ≤ 2147483647)) :
    Calls Tryz.prog 65 #[.agg #[.slice h.i.a h.i.n h.i.c, .slice h.p.a h.p.n h.p.c, .slice h.t.a h.t.n h.t.c, .slice h.s.a h.s.n h.s.c, .slice h.g.a h.g.n h.g.c, .slice h.r.a h.r.n h.r.c, .slice h.o.a h.o.n h.o.c], .agg #[.int .i64 x.op, .int .i64 x.a, .int .i64 x.b, .int .i64 x.c]] w fun e w' => e = .returned (.agg #[.int .i64 (shI h x).op, .int .i64 (shI h x).a, .int .i64 (shI h x).b, .int .i64 (shI h x).c]) ∧ Below w.heap.size w w' := by
  have hop := (opIs_iff x.op).1 ho
  obtain ⟨hop1, hop2⟩ := hop
  have HO := Lib.hid ho
  have KO := Lib.hid (fun i hi => kinds_ok x.op ho i hi)
  have HK := Lib.hid (kinds_any x.op hop1 hop2)
  have HSL := Lib.hid (fun n => shiftN_le hl n)
  have HBD := Lib.hid hbd
  obtain ⟨t, ht⟩ : ∃ t, kStr x.op = t := ⟨_, rfl⟩
  rw [ht] at HK KO
  have ht3 : t.size ≤ 3 := (KO.out 0 (by omega)).1
  have X0 := Lib.hid ((XInv.start h x w).to ((Below.refl _ _).alloc (by simp) (.cells #[.int .i64 0, .int .i64 0, .int .i64 0, .int .i64 0] 52)))
  clear ho hop1 hop2 ht hl hbd
  have d0 := X0.out.d0
  have q0 : ((w.alloc (.cells #[.slice h.i.a h.i.n h.i.c, .slice h.p.a h.p.n h.p.c, .slice h.t.a h.t.n h.t.c, .slice h.s.a h.s.n h.s.c, .slice h.g.a h.g.n h.g.c, .slice h.r.a h.r.n h.r.c, .slice h.o.a h.o.n h.o.c] 30)).alloc (.cells #[.int .i64 x.op, .int .i64 x.a, .int .i64 x.b, .int .i64 x.c] 52)).heap.size = w.heap.size + 2 := by simp
  have Q0 : Hid ((((w.alloc (.cells #[.slice h.i.a h.i.n h.i.c, .slice h.p.a h.p.n h.p.c, .slice h.t.a h.t.n h.t.c, .slice h.s.a h.s.n h.s.c, .slice h.g.a h.g.n h.g.c, .slice h.r.a h.r.n h.r.c, .slice h.o.a h.o.n h.o.c] 30)).alloc (.cells #[.int .i64 x.op, .int .i64 x.a, .int .i64 x.b, .int .i64 x.c] 52)).alloc (.cells #[.int .i64 0, .int .i64 0, .int .i64 0, .int .i64 0] 52)).heap[w.heap.size + 2]? = some (.cells #[.int .i64 0, .int .i64 0, .int .i64 0, .int .i64 0] 52 (0, 0))) := Lib.hid (by rw [← q0]; exact heap_alloc_new _ _)
  clear q0
  go_enter Tryz.func65, Tryz.ntmps65
  go_wp2_with (go_at_call 77; refine (HK.out _).mono ?_; rintro e w1 ⟨rfl, hb⟩; have X1 := Lib.hid (X0.out.below hb); have Q1 := Lib.hid ((hb.block _ (Array.getElem?_eq_some_iff.1 Q0.out).1).trans Q0.out); clear hb d0; have d0 := X1.out.d0; have d1 := X1.out.d1; have d2 := X1.out.d2; have d3 := X1.out.d3)
  have hq2 := (Array.getElem?_eq_some_iff.1 Q1.out).1
  go_loopw [7] (fun i wr => ∃ m : Nat, m ≤ t.size ∧ i = .int .i64 m ∧ RmI w.heap.size w1.heap.size h x w wr m) (fun i _ => t.size - (intOf i).toNat)
  case atStart => exact ⟨0, by omega, rfl, X1.out.to ((Below.refl _ _).alloc X1.out.z _), hq2, (Below.heap_alloc _ _ _ hq2).trans Q1.out, World.ownsRow_lit w1 #[.int .i64 x.a, .int .i64 x.b, .int .i64 x.c] 3 (Nat.le_refl _) (by unfold maxLen; omega) rfl⟩
  case round =>
    obtain ⟨m, hm, rfl, hR⟩ := hrel
    have RR := Lib.hid hR
    clear hR X0 X1 Q0 Q1 d0 d1 d2 d3
    by_cases hlt : m < t.size
    · have hm3 : m < 3 := by omega
      obtain ⟨hL, hno⟩ := (KO.out m hm3).2.1 hlt
      obtain ⟨L, hLe⟩ : ∃ L : Int, (t[m].toNat : Int) = L := ⟨_, rfl⟩
      obtain ⟨q, hqe⟩ : ∃ q : Nat, shiftN h (letNo L : Nat) = q := ⟨_, rfl⟩
      obtain ⟨v, hv⟩ : ∃ v, operandOf x m = v := ⟨_, rfl⟩
      have hq1 : (q : Int) ≤ 20000 := by rw [← hqe]; exact HSL.out _
      have hvb : -2147483647 ≤ v ∧ v ≤ 2147483647 := by
        rw [← hv]
        match m, hm3 with
        | 0, _ => exact HBD.out.1
        | 1, _ => exact HBD.out.2.1
        | 2, _ => exact HBD.out.2.2
      obtain ⟨hv1, hv2⟩ := hvb
      have HN : Hid (operandOf (shI h x) m = v + (q : Int)) := Lib.hid (by rw [sh_operand h x m hm3 HO.out, hv, ← hqe, ← hno, hLe])
      rw [hLe] at hL
      have HB := Lib.hid (rbase_any L hL h)
      rw [hqe] at HB
      have y0 := RR.out.b.b.c0; have y1 := RR.out.b.b.c1; have y2 := RR.out.b.b.c2; have y3 := RR.out.b.b.c3; have y4 := RR.out.b.b.c4; have y5 := RR.out.b.b.c5; have y6 := RR.out.b.b.c6
      have HV := Lib.hid hv
      have RR1 := Lib.hid RR.out.drew
      have cm := RR.out.cm hm3 HV.out
      have hm0 : (0 : Int) ≤ (m : Int) := by omega
      have hmi : (m : Int) < 3 := by omega
      have hml : (m : Int) < (t.size : Int) := by omega
      have hg1 : decide (t.size ≤ m) = false := by simpa using hlt
      have hg2 : decide ((t.size : Int) ≤ (m : Int)) = false := by simpa using hlt
      have s1 : IntKind.i64.wrap (v + (q : Int)) = v + (q : Int) := IntWalk.i64_in _ (by omega)
      clear hL hno hqe hv
      go_wp2
      go_region_with ((go_at_call 113; refine (HB.out _).mono ?_; rintro e w5 ⟨rfl, hb⟩; have RR2 := Lib.hid (RR1.out.below hb); have f2 := RR2.out.n.frozenAt m; have c2 := RR2.out.cm hm3 HV.out; clear hb))
      all_goals
        go_wp2
        go_roundw
        case rel => exact ⟨m + 1, by omega, by go_num, RR2.out.step hm3 HN.out⟩
        case measure => simp [intOf]; omega
    · have hme : m = t.size := by omega
      have HE : Hid (opsM h x m = [(shI h x).a, (shI h x).b, (shI h x).c]) := Lib.hid (opsM_end h x m HO.out fun i hi hl => (KO.out i hi).2.2 (by omega))
      have e0 : wr.cell? ⟨w1.heap.size, 0, none⟩ = some (.int .i64 (shI h x).a) := by rw [RR.out.n.cellAt 0 (by omega), HE.out]; rfl
      have e1 : wr.cell? ⟨w1.heap.size, 1, none⟩ = some (.int .i64 (shI h x).b) := by rw [RR.out.n.cellAt 1 (by omega), HE.out]; rfl
      have e2 : wr.cell? ⟨w1.heap.size, 2, none⟩ = some (.int .i64 (shI h x).c) := by rw [RR.out.n.cellAt 2 (by omega), HE.out]; rfl
      have d0 := RR.out.b.d0
      have r0 : wr.cell? ⟨w.heap.size + 1 + 1, 0, none⟩ = some (.int .i64 0) := cell_of_row _ (w.heap.size + 2) 0 _ _ _ RR.out.r
      have r1 : wr.cell? ⟨w.heap.size + 1 + 1, 1, none⟩ = some (.int .i64 0) := cell_of_row _ (w.heap.size + 2) 1 _ _ _ RR.out.r
      have r2 : wr.cell? ⟨w.heap.size + 1 + 1, 2, none⟩ = some (.int .i64 0) := cell_of_row _ (w.heap.size + 2) 2 _ _ _ RR.out.r
      have r3 : wr.cell? ⟨w.heap.size + 1 + 1, 3, none⟩ = some (.int .i64 0) := cell_of_row _ (w.heap.size + 2) 3 _ _ _ RR.out.r
      have rf : ∀ j, wr.frozen? ⟨w.heap.size + 1 + 1, j, none⟩ = false := fun j => by
        have := RR.out.r
        simp [World.frozen?, this]
      clear hme
      go_wp2_with fail
      go_still_tail 12, (by kernel_rfl)
      go_wp2
      have z0 : Below w.heap.size w wr := RR.out.b.b.b
      have zN : w.heap.size ≤ w.heap.size + 1 + 1 := by omega
      have zb := (((z0.setCell (p := ⟨w.heap.size + 1 + 1, 0, none⟩) zN (.int .i64 x.op)).setCell (p := ⟨w.heap.size + 1 + 1, 1, none⟩) zN (.int .i64 (shI h x).a)).setCell (p := ⟨w.heap.size + 1 + 1, 2, none⟩) zN (.int .i64 (shI h x).b)).setCell (p := ⟨w.heap.size + 1 + 1, 3, none⟩) zN (.int .i64 (shI h x).c)
      exact bodyPost_ret (v := .agg #[.int .i64 x.op, .int .i64 (shI h x).a, .int .i64 (shI h x).b, .int .i64 (shI h x).c]) (by simp [results, Tryz.results65, go_sem, r0, r1, r2, r3]) rfl ⟨rfl, zb.drew⟩
end Go.Proofs.YtmfnholhhakgaaaGreatDoor
