/- The reference of chapter 14: Same: the contract: whether two codes are equal. -/
import Derived.Test.YtmfnholhhakgaaaGreatDoorMhi
import Derived.StillTailTactics
namespace Go.Proofs.YtmfnholhhakgaaaGreatDoor
open Go Go.Proofs Go.RowKit Go.Sort
open Classical
set_option maxRecDepth 100000
theorem SInv.drewN {N : Nat} {h g : CodeH} {w wr : World} (H : SInv N h g w wr) (n : Nat) : SInv N h g w (wr.drewN n) := H.to (below_drewN (Below.refl _ _) n)
theorem SInv.drew {N : Nat} {h g : CodeH} {w wr : World} (H : SInv N h g w wr) : SInv N h g w wr.drew := H.to ((Below.refl _ _).drew)
theorem upto_eq {α : Type} {xs ys : List α} {k : Nat} {x y : α} (hx : xs[k]? = some x) (hy : ys[k]? = some y) (e : x = y) (h : ∀ j, j < k → xs[j]? = ys[j]?) : ∀ j, j < k + 1 → xs[j]? = ys[j]? := fun j hj => by
  rcases Nat.lt_succ_iff_lt_or_eq.1 hj with h' | rfl
  · exact h j h'
  · rw [hx, hy, e]
theorem neq_int {n m : Nat} (h : n ≠ m) : ((n : Int) != (m : Int)) = true := by simp; omega
theorem eq_int {n m : Nat} (h : n = m) : ((n : Int) != (m : Int)) = false := by simp; omega
set_option maxHeartbeats 16000000 in
theorem rSame_any (h g : CodeH) (a b : CodeD) (w : World) (Ha : CodeAt w w.heap.size h a) (Hb : CodeAt w w.heap.size g b) :
    Calls Tryz.prog 17 #[.agg #[.slice h.i.a h.i.n h.i.c, .slice h.p.a h.p.n h.p.c, .slice h.t.a h.t.n h.t.c, .slice h.s.a h.s.n h.s.c, .slice h.g.a h.g.n h.g.c, .slice h.r.a h.r.n h.r.c, .slice h.o.a h.o.n h.o.c], .agg #[.slice g.i.a g.i.n g.i.c, .slice g.p.a g.p.n g.p.c, .slice g.t.a g.t.n g.t.c, .slice g.s.a g.s.n g.s.c, .slice g.g.a g.g.n g.g.c, .slice g.r.a g.r.n g.r.c, .slice g.o.a g.o.n g.o.c]] w fun e w' => e = .returned (.bool (decide (a = b))) ∧ Below w.heap.size w w' := by
  have HA := Lib.hid Ha
  have HB := Lib.hid Hb
  have I0 := Lib.hid (SInv.start h g w)
  clear Ha Hb
  by_cases l0 : h.i.n = g.i.n
  rotate_left
  · have HN := Lib.hid (code_ne (a := a) (b := b) fun e => l0 (by have h1 := HA.out.ni.1; have h2 := HB.out.ni.1; rw [h1, h2, e.1]))
    have n0 := neq_int l0
    clear l0
    go_enter Tryz.func17, Tryz.ntmps17
    go_wp2
    go_ret
    exact ⟨ret_bool HN.out.symm, I0.out.x.b⟩
  have n0 := eq_int l0
  have L0 := Lib.hid l0
  clear l0
  by_cases l1 : h.p.n = g.p.n
  rotate_left
  · have HN := Lib.hid (code_ne (a := a) (b := b) fun e => l1 (by have h1 := HA.out.np.1; have h2 := HB.out.np.1; rw [h1, h2, e.2.1]))
    have n1 := neq_int l1
    clear l1
    go_enter Tryz.func17, Tryz.ntmps17
    go_wp2
    go_ret
    exact ⟨ret_bool HN.out.symm, I0.out.x.b⟩
  have n1 := eq_int l1
  have L1 := Lib.hid l1
  clear l1
  by_cases l2 : h.t.n = g.t.n
  rotate_left
  · have HN := Lib.hid (code_ne (a := a) (b := b) fun e => l2 (by have h1 := HA.out.nt.1; have h2 := HB.out.nt.1; rw [h1, h2, e.2.2.1]))
    have n2 := neq_int l2
    clear l2
    go_enter Tryz.func17, Tryz.ntmps17
    go_wp2
    go_ret
    exact ⟨ret_bool HN.out.symm, I0.out.x.b⟩
  have n2 := eq_int l2
  have L2 := Lib.hid l2
  clear l2
  by_cases l3 : h.s.n = g.s.n
  rotate_left
  · have HN := Lib.hid (code_ne (a := a) (b := b) fun e => l3 (by have h1 := HA.out.ns.1; have h2 := HB.out.ns.1; rw [h1, h2, e.2.2.2.1]))
    have n3 := neq_int l3
    clear l3
    go_enter Tryz.func17, Tryz.ntmps17
    go_wp2
    go_ret
    exact ⟨ret_bool HN.out.symm, I0.out.x.b⟩
  have n3 := eq_int l3
  have L3 := Lib.hid l3
  clear l3
  by_cases l4 : h.g.n = g.g.n
  rotate_left
  · have HN := Lib.hid (code_ne (a := a) (b := b) fun e => l4 (by have h1 := HA.out.ng.1; have h2 := HB.out.ng.1; rw [h1, h2, e.2.2.2.2.1]))
    have n4 := neq_int l4
    clear l4
    go_enter Tryz.func17, Tryz.ntmps17
    go_wp2
    go_ret
    exact ⟨ret_bool HN.out.symm, I0.out.x.b⟩
  have n4 := eq_int l4
  have L4 := Lib.hid l4
  clear l4
  by_cases l5 : h.r.n = g.r.n
  rotate_left
  · have HN := Lib.hid (code_ne (a := a) (b := b) fun e => l5 (by have h1 := HA.out.nr.1; have h2 := HB.out.nr.1; rw [h1, h2, e.2.2.2.2.2.1]))
    have n5 := neq_int l5
    clear l5
    go_enter Tryz.func17, Tryz.ntmps17
    go_wp2
    go_ret
    exact ⟨ret_bool HN.out.symm, I0.out.x.b⟩
  have n5 := eq_int l5
  have L5 := Lib.hid l5
  clear l5
  cases ob : (a.owns == b.owns) with
  | false =>
    have OB := Lib.hid ob
    have HN := Lib.hid (code_ne (a := a) (b := b) fun e => by rw [e.2.2.2.2.2.2] at ob; simp at ob)
    clear ob
    go_enter Tryz.func17, Tryz.ntmps17
    go_wp2_with (go_at_call 35; refine (sameInts_any _ _ _ _ _ _ a.owns b.owns _ ((HA.out.o.below I0.out.x.b).more I0.out.x.b.size) ((HB.out.o.below I0.out.x.b).more I0.out.x.b.size) HA.out.no.2).mono ?_; rintro e w1 ⟨rfl, hb1⟩; have I1 := Lib.hid (I0.out.below hb1); clear hb1; rw [OB.out])
    go_ret
    exact ⟨ret_bool HN.out.symm, I1.out.x.b⟩
  | true =>
  have OB := Lib.hid ob
  have OE := Lib.hid (eq_of_beq ob)
  clear ob
  go_enter Tryz.func17, Tryz.ntmps17
  go_wp2_with (go_at_call 35; refine (sameInts_any _ _ _ _ _ _ a.owns b.owns _ ((HA.out.o.below I0.out.x.b).more I0.out.x.b.size) ((HB.out.o.below I0.out.x.b).more I0.out.x.b.size) HA.out.no.2).mono ?_; rintro e w1 ⟨rfl, hb1⟩; have I1 := Lib.hid (I0.out.below hb1); clear hb1; rw [OB.out])
  clear n0 n1 n2 n3 n4 n5
  go_loopw [5] (fun i wr => ∃ k : Nat, k ≤ h.i.n ∧ i = .int .i64 k ∧ SInv w.heap.size h g w wr ∧ ∀ j, j < k → a.instrs[j]? = b.instrs[j]?) (fun i _ => h.i.n - (intOf i).toNat)
  case atStart => exact ⟨0, by omega, rfl, I1.out, fun j hj => by omega⟩
  case round =>
    obtain ⟨k, hk, rfl, hT, hno⟩ := hrel
    have SS := Lib.hid hT
    have HNO := Lib.hid hno
    clear hno hT I1
    have y0 := SS.out.x.c0
    have e0 := SS.out.d0
    have hn : h.i.n ≤ 140737488351232 := HA.out.ni.2
    by_cases hlt : k < h.i.n
    · have hlt2 : k < g.i.n := by have := L0.out; omega
      have hi1 : (k : Int) < (h.i.n : Int) := by omega
      have hi2 : (k : Int) < (g.i.n : Int) := by omega
      have hi0 : (0 : Int) ≤ (k : Int) := by omega
      obtain ⟨a1, x, had, hx, hab, hc⟩ := Reads.elem (f := InstrD.cells) (fun _ => rfl) (HA.out.i.below SS.out.x.b) HA.out.ni.1 hlt
      obtain ⟨a2, y, had2, hy, hab2, hd⟩ := Reads.elem (f := InstrD.cells) (fun _ => rfl) (HB.out.i.below SS.out.x.b) HB.out.ni.1 hlt2
      have c0 := hc 0 _ (by omega) rfl
      rw [show (a1.add (k * 4)).add 0 = a1.add (k * 4) from rfl] at c0
      have c1 := hc 1 _ (by omega) rfl
      rw [show (a1.add (k * 4)).add 1 = { block := (a1.add (k * 4)).block, off := (a1.add (k * 4)).off + 1 } from rfl] at c1
      have c2 := hc 2 _ (by omega) rfl
      rw [show (a1.add (k * 4)).add 2 = { block := (a1.add (k * 4)).block, off := (a1.add (k * 4)).off + 2 } from rfl] at c2
      have c3 := hc 3 _ (by omega) rfl
      rw [show (a1.add (k * 4)).add 3 = { block := (a1.add (k * 4)).block, off := (a1.add (k * 4)).off + 3 } from rfl] at c3
      have d0 := hd 0 _ (by omega) rfl
      rw [show (a2.add (k * 4)).add 0 = a2.add (k * 4) from rfl] at d0
      have d1 := hd 1 _ (by omega) rfl
      rw [show (a2.add (k * 4)).add 1 = { block := (a2.add (k * 4)).block, off := (a2.add (k * 4)).off + 1 } from rfl] at d1
      have d2 := hd 2 _ (by omega) rfl
      rw [show (a2.add (k * 4)).add 2 = { block := (a2.add (k * 4)).block, off := (a2.add (k * 4)).off + 2 } from rfl] at d2
      have d3 := hd 3 _ (by omega) rfl
      rw [show (a2.add (k * 4)).add 3 = { block := (a2.add (k * 4)).block, off := (a2.add (k * 4)).off + 3 } from rfl] at d3
      rw [had] at y0
      rw [had2] at e0
      have HX := Lib.hid hx
      have HY := Lib.hid hy
      clear hx hy hc hd had had2 hab hab2
      have hq := neq_instr x y
      by_cases hne : x = y
      · rw [decide_eq_true hne] at hq
        have HE := Lib.hid hne
        clear hne
        go_wp2
        go_quiet (fail)
        go_wp2
        go_roundw
        case rel => exact ⟨k + 1, by omega, by go_num, SS.out.drewN _, upto_eq HX.out HY.out HE.out HNO.out⟩
        case measure => simp [intOf]; omega
      · rw [decide_eq_false hne] at hq
        have HN := Lib.hid (code_ne (a := a) (b := b) fun e => ne_of_at HX.out HY.out hne e.1)
        clear hne
        go_wp2
        go_quiet (fail)
        go_wp2
        go_ret
        exact ⟨ret_bool HN.out.symm, (SS.out.drewN _).x.b⟩
    · have E0 := Lib.hid (eq_of_all HA.out.ni.1 HB.out.ni.1 L0.out hlt HNO.out)
      have B0 := SS
      clear SS HNO hn
      have f0 := B0.out.x.c1
      go_wp2
      clear y0 e0 f0
      go_loopw [6] (fun i wr => ∃ k : Nat, k ≤ h.p.n ∧ i = .int .i64 k ∧ SInv w.heap.size h g w wr ∧ ∀ j, j < k → a.procs[j]? = b.procs[j]?) (fun i _ => h.p.n - (intOf i).toNat)
      case atStart => exact ⟨0, by omega, rfl, B0.out, fun j hj => by omega⟩
      case round =>
        obtain ⟨k, hk, rfl, hT, hno⟩ := hrel
        have SS := Lib.hid hT
        have HNO := Lib.hid hno
        clear hno hT B0
        have y0 := SS.out.x.c1
        have e0 := SS.out.d1
        have hn : h.p.n ≤ 140737488351232 := HA.out.np.2
        by_cases hlt : k < h.p.n
        · have hlt2 : k < g.p.n := by have := L1.out; omega
          have hi1 : (k : Int) < (h.p.n : Int) := by omega
          have hi2 : (k : Int) < (g.p.n : Int) := by omega
          have hi0 : (0 : Int) ≤ (k : Int) := by omega
          obtain ⟨a1, x, had, hx, hab, hc⟩ := Reads.elem (f := ProcD.cells) (fun _ => rfl) (HA.out.p.below SS.out.x.b) HA.out.np.1 hlt
          obtain ⟨a2, y, had2, hy, hab2, hd⟩ := Reads.elem (f := ProcD.cells) (fun _ => rfl) (HB.out.p.below SS.out.x.b) HB.out.np.1 hlt2
          have c0 := hc 0 _ (by omega) rfl
          rw [show (a1.add (k * 5)).add 0 = a1.add (k * 5) from rfl] at c0
          have c1 := hc 1 _ (by omega) rfl
          rw [show (a1.add (k * 5)).add 1 = { block := (a1.add (k * 5)).block, off := (a1.add (k * 5)).off + 1 } from rfl] at c1
          have c2 := hc 2 _ (by omega) rfl
          rw [show (a1.add (k * 5)).add 2 = { block := (a1.add (k * 5)).block, off := (a1.add (k * 5)).off + 2 } from rfl] at c2
          have c3 := hc 3 _ (by omega) rfl
          rw [show (a1.add (k * 5)).add 3 = { block := (a1.add (k * 5)).block, off := (a1.add (k * 5)).off + 3 } from rfl] at c3
          have c4 := hc 4 _ (by omega) rfl
          rw [show (a1.add (k * 5)).add 4 = { block := (a1.add (k * 5)).block, off := (a1.add (k * 5)).off + 4 } from rfl] at c4
          have d0 := hd 0 _ (by omega) rfl
          rw [show (a2.add (k * 5)).add 0 = a2.add (k * 5) from rfl] at d0
          have d1 := hd 1 _ (by omega) rfl
          rw [show (a2.add (k * 5)).add 1 = { block := (a2.add (k * 5)).block, off := (a2.add (k * 5)).off + 1 } from rfl] at d1
          have d2 := hd 2 _ (by omega) rfl
          rw [show (a2.add (k * 5)).add 2 = { block := (a2.add (k * 5)).block, off := (a2.add (k * 5)).off + 2 } from rfl] at d2
          have d3 := hd 3 _ (by omega) rfl
          rw [show (a2.add (k * 5)).add 3 = { block := (a2.add (k * 5)).block, off := (a2.add (k * 5)).off + 3 } from rfl] at d3
          have d4 := hd 4 _ (by omega) rfl
          rw [show (a2.add (k * 5)).add 4 = { block := (a2.add (k * 5)).block, off := (a2.add (k * 5)).off + 4 } from rfl] at d4
          rw [had] at y0
          rw [had2] at e0
          have HX := Lib.hid hx
          have HY := Lib.hid hy
          clear hx hy hc hd had had2 hab hab2
          have hq := neq_proc x y
          by_cases hne : x = y
          · rw [decide_eq_true hne] at hq
            have HE := Lib.hid hne
            clear hne
            go_wp2
            go_quiet (fail)
            go_wp2
            go_roundw
            case rel => exact ⟨k + 1, by omega, by go_num, SS.out.drewN _, upto_eq HX.out HY.out HE.out HNO.out⟩
            case measure => simp [intOf]; omega
          · rw [decide_eq_false hne] at hq
            have HN := Lib.hid (code_ne (a := a) (b := b) fun e => ne_of_at HX.out HY.out hne e.2.1)
            clear hne
            go_wp2
            go_quiet (fail)
            go_wp2
            go_ret
            exact ⟨ret_bool HN.out.symm, (SS.out.drewN _).x.b⟩
        · have E1 := Lib.hid (eq_of_all HA.out.np.1 HB.out.np.1 L1.out hlt HNO.out)
          have B0 := SS
          clear SS HNO hn
          have f0 := B0.out.x.c2
          go_wp2
          clear y0 e0 f0
          go_loopw [7] (fun i wr => ∃ k : Nat, k ≤ h.t.n ∧ i = .int .i64 k ∧ SInv w.heap.size h g w wr ∧ ∀ j, j < k → a.thunks[j]? = b.thunks[j]?) (fun i _ => h.t.n - (intOf i).toNat)
          case atStart => exact ⟨0, by omega, rfl, B0.out, fun j hj => by omega⟩
          case round =>
            obtain ⟨k, hk, rfl, hT, hno⟩ := hrel
            have SS := Lib.hid hT
            have HNO := Lib.hid hno
            clear hno hT B0
            have y0 := SS.out.x.c2
            have e0 := SS.out.d2
            have hn : h.t.n ≤ 140737488351232 := HA.out.nt.2
            by_cases hlt : k < h.t.n
            · have hlt2 : k < g.t.n := by have := L2.out; omega
              have hi1 : (k : Int) < (h.t.n : Int) := by omega
              have hi2 : (k : Int) < (g.t.n : Int) := by omega
              have hi0 : (0 : Int) ≤ (k : Int) := by omega
              obtain ⟨a1, x, had, hx, hab, hc⟩ := Reads.elem (f := ThunkD.cells) (fun _ => rfl) (HA.out.t.below SS.out.x.b) HA.out.nt.1 hlt
              obtain ⟨a2, y, had2, hy, hab2, hd⟩ := Reads.elem (f := ThunkD.cells) (fun _ => rfl) (HB.out.t.below SS.out.x.b) HB.out.nt.1 hlt2
              have c0 := hc 0 _ (by omega) rfl
              rw [show (a1.add (k * 3)).add 0 = a1.add (k * 3) from rfl] at c0
              have c1 := hc 1 _ (by omega) rfl
              rw [show (a1.add (k * 3)).add 1 = { block := (a1.add (k * 3)).block, off := (a1.add (k * 3)).off + 1 } from rfl] at c1
              have c2 := hc 2 _ (by omega) rfl
              rw [show (a1.add (k * 3)).add 2 = { block := (a1.add (k * 3)).block, off := (a1.add (k * 3)).off + 2 } from rfl] at c2
              have d0 := hd 0 _ (by omega) rfl
              rw [show (a2.add (k * 3)).add 0 = a2.add (k * 3) from rfl] at d0
              have d1 := hd 1 _ (by omega) rfl
              rw [show (a2.add (k * 3)).add 1 = { block := (a2.add (k * 3)).block, off := (a2.add (k * 3)).off + 1 } from rfl] at d1
              have d2 := hd 2 _ (by omega) rfl
              rw [show (a2.add (k * 3)).add 2 = { block := (a2.add (k * 3)).block, off := (a2.add (k * 3)).off + 2 } from rfl] at d2
              rw [had] at y0
              rw [had2] at e0
              have HX := Lib.hid hx
              have HY := Lib.hid hy
              clear hx hy hc hd had had2 hab hab2
              have hq := neq_thunk x y
              by_cases hne : x = y
              · rw [decide_eq_true hne] at hq
                have HE := Lib.hid hne
                clear hne
                go_wp2
                go_quiet (fail)
                go_wp2
                go_roundw
                case rel => exact ⟨k + 1, by omega, by go_num, SS.out.drewN _, upto_eq HX.out HY.out HE.out HNO.out⟩
                case measure => simp [intOf]; omega
              · rw [decide_eq_false hne] at hq
                have HN := Lib.hid (code_ne (a := a) (b := b) fun e => ne_of_at HX.out HY.out hne e.2.2.1)
                clear hne
                go_wp2
                go_quiet (fail)
                go_wp2
                go_ret
                exact ⟨ret_bool HN.out.symm, (SS.out.drewN _).x.b⟩
            · have E2 := Lib.hid (eq_of_all HA.out.nt.1 HB.out.nt.1 L2.out hlt HNO.out)
              have B0 := SS
              clear SS HNO hn
              have f0 := B0.out.x.c3
              go_wp2
              clear y0 e0 f0
              go_loopw [8] (fun i wr => ∃ k : Nat, k ≤ h.s.n ∧ i = .int .i64 k ∧ SInv w.heap.size h g w wr ∧ ∀ j, j < k → a.switches[j]? = b.switches[j]?) (fun i _ => h.s.n - (intOf i).toNat)
              case atStart => exact ⟨0, by omega, rfl, B0.out, fun j hj => by omega⟩
              case round =>
                obtain ⟨k, hk, rfl, hT, hno⟩ := hrel
                have SS := Lib.hid hT
                have HNO := Lib.hid hno
                clear hno hT B0
                have y0 := SS.out.x.c3
                have e0 := SS.out.d3
                have hn : h.s.n ≤ 140737488351232 := HA.out.ns.2
                by_cases hlt : k < h.s.n
                · have hlt2 : k < g.s.n := by have := L3.out; omega
                  have hi1 : (k : Int) < (h.s.n : Int) := by omega
                  have hi2 : (k : Int) < (g.s.n : Int) := by omega
                  have hi0 : (0 : Int) ≤ (k : Int) := by omega
                  obtain ⟨hs, hr, hsl, hsx⟩ := HA.out.s
                  obtain ⟨a1, x, had, hx, hab, c0⟩ := Reads.elem1 (f := SH.v) (hr.below SS.out.x.b) (HA.out.ns.1.trans hsl.symm) hlt
                  obtain ⟨l, hl⟩ : ∃ l, a.switches[k]? = some l := ⟨_, List.getElem?_eq_getElem (by have := HA.out.ns.1; omega)⟩
                  obtain ⟨hRl, hSl⟩ := hsx k x l hx hl
                  have HX := Lib.hid hl
                  have RX := Lib.hid ((hRl.below SS.out.drew.x.b).more SS.out.drew.x.b.size)
                  change wr.cell? (a1.add k) = some (.slice x.a x.n x.c) at c0
                  rw [had] at y0
                  clear hx hab had hr hsl hsx hl hRl
                  obtain ⟨hs2, hr2, hsl2, hsx2⟩ := HB.out.s
                  obtain ⟨a2, y, had2, hy, hab2, d0⟩ := Reads.elem1 (f := SH.v) (hr2.below SS.out.x.b) (HB.out.ns.1.trans hsl2.symm) hlt2
                  obtain ⟨l2, hl2⟩ : ∃ l, b.switches[k]? = some l := ⟨_, List.getElem?_eq_getElem (by have := HB.out.ns.1; omega)⟩
                  obtain ⟨hRl2, hSl2⟩ := hsx2 k y l2 hy hl2
                  have HY := Lib.hid hl2
                  have RY := Lib.hid ((hRl2.below SS.out.drew.x.b).more SS.out.drew.x.b.size)
                  change wr.cell? (a2.add k) = some (.slice y.a y.n y.c) at d0
                  rw [had2] at e0
                  clear hy hab2 had2 hr2 hsl2 hsx2 hl2 hRl2 hSl2
                  by_cases hne : l = l2
                  · have EB : Hid ((l == l2) = true) := Lib.hid (by rw [hne]; simp)
                    have HE := Lib.hid hne
                    clear hne
                    go_wp2
                    refine wp_region_still_tail 10 (by kernel_rfl) (by kernel_rfl) ?_
                    simp only [List.take_succ_cons, List.take_zero, List.drop_succ_cons, List.drop_zero]
                    change wpStill _ _ wr.drew _ _ _
                    repeat still_step
                    refine wpStill_nil ?_
                    change wpList _ _ _ _ _ wr.drew
                    go_wp2_with (go_at_call 35; refine (sameInts_any x.a y.a x.n x.c y.n y.c l l2 _ RX.out RY.out hSl).mono ?_; rintro e w5 ⟨rfl, hb5⟩; have S5 := Lib.hid (SS.out.drew.below hb5); clear hb5; rw [EB.out])
                    go_roundw
                    case rel => exact ⟨k + 1, by omega, by go_num, S5.out, upto_eq HX.out HY.out HE.out HNO.out⟩
                    case measure => simp [intOf]; omega
                  · have EB : Hid ((l == l2) = false) := Lib.hid (by simpa using hne)
                    have HN := Lib.hid (code_ne (a := a) (b := b) fun e => ne_of_at HX.out HY.out hne e.2.2.2.1)
                    clear hne
                    go_wp2
                    refine wp_region_still_tail 10 (by kernel_rfl) (by kernel_rfl) ?_
                    simp only [List.take_succ_cons, List.take_zero, List.drop_succ_cons, List.drop_zero]
                    change wpStill _ _ wr.drew _ _ _
                    repeat still_step
                    refine wpStill_nil ?_
                    change wpList _ _ _ _ _ wr.drew
                    go_wp2_with (go_at_call 35; refine (sameInts_any x.a y.a x.n x.c y.n y.c l l2 _ RX.out RY.out hSl).mono ?_; rintro e w5 ⟨rfl, hb5⟩; have S5 := Lib.hid (SS.out.drew.below hb5); clear hb5; rw [EB.out])
                    go_ret
                    exact ⟨ret_bool HN.out.symm, S5.out.x.b⟩
                · have E3 := Lib.hid (eq_of_all HA.out.ns.1 HB.out.ns.1 L3.out hlt HNO.out)
                  have B0 := SS
                  clear SS HNO hn
                  have f0 := B0.out.x.c4
                  go_wp2
                  clear y0 e0 f0
                  go_loopw [9] (fun i wr => ∃ k : Nat, k ≤ h.g.n ∧ i = .int .i64 k ∧ SInv w.heap.size h g w wr ∧ ∀ j, j < k → a.strings[j]? = b.strings[j]?) (fun i _ => h.g.n - (intOf i).toNat)
                  case atStart => exact ⟨0, by omega, rfl, B0.out, fun j hj => by omega⟩
                  case round =>
                    obtain ⟨k, hk, rfl, hT, hno⟩ := hrel
                    have SS := Lib.hid hT
                    have HNO := Lib.hid hno
                    clear hno hT B0
                    have y0 := SS.out.x.c4
                    have e0 := SS.out.d4
                    have hn : h.g.n ≤ 140737488351232 := HA.out.ng.2
                    by_cases hlt : k < h.g.n
                    · have hlt2 : k < g.g.n := by have := L4.out; omega
                      have hi1 : (k : Int) < (h.g.n : Int) := by omega
                      have hi2 : (k : Int) < (g.g.n : Int) := by omega
                      have hi0 : (0 : Int) ≤ (k : Int) := by omega
                      obtain ⟨a1, x, had, hx, hab, c0⟩ := Reads.elem1 (f := Value.string) (HA.out.g.below SS.out.x.b) HA.out.ng.1 hlt
                      obtain ⟨a2, y, had2, hy, hab2, d0⟩ := Reads.elem1 (f := Value.string) (HB.out.g.below SS.out.x.b) HB.out.ng.1 hlt2
                      rw [had] at y0
                      rw [had2] at e0
                      have HX := Lib.hid hx
                      have HY := Lib.hid hy
                      clear hx hy had had2 hab hab2
                      by_cases hne : x = y
                      · have hv : (x.toList != y.toList) = false := by rw [hne]; simp
                        have hv2 : (x.toList == y.toList) = true := by rw [hne]; exact beq_self_eq_true _
                        have HE := Lib.hid hne
                        clear hne
                        go_wp2
                        go_quiet (fail)
                        go_wp2
                        go_roundw
                        case rel => exact ⟨k + 1, by omega, by go_num, SS.out.drewN _, upto_eq HX.out HY.out HE.out HNO.out⟩
                        case measure => simp [intOf]; omega
                      · have hv2 : (x.toList == y.toList) = false := by cases h : (x.toList == y.toList) with | false => rfl | true => exact absurd (bytes_eq h) hne
                        have hv : (x.toList != y.toList) = true := by rw [bne, hv2]; rfl
                        have HN := Lib.hid (code_ne (a := a) (b := b) fun e => ne_of_at HX.out HY.out hne e.2.2.2.2.1)
                        clear hne
                        go_wp2
                        go_quiet (fail)
                        go_wp2
                        go_ret
                        exact ⟨ret_bool HN.out.symm, (SS.out.drewN _).x.b⟩
                    · have E4 := Lib.hid (eq_of_all HA.out.ng.1 HB.out.ng.1 L4.out hlt HNO.out)
                      have B0 := SS
                      clear SS HNO hn
                      have f0 := B0.out.x.c5
                      go_wp2
                      clear y0 e0 f0
                      go_loopw [10] (fun i wr => ∃ k : Nat, k ≤ h.r.n ∧ i = .int .i64 k ∧ SInv w.heap.size h g w wr ∧ ∀ j, j < k → a.reals[j]? = b.reals[j]?) (fun i _ => h.r.n - (intOf i).toNat)
                      case atStart => exact ⟨0, by omega, rfl, B0.out, fun j hj => by omega⟩
                      case round =>
                        obtain ⟨k, hk, rfl, hT, hno⟩ := hrel
                        have SS := Lib.hid hT
                        have HNO := Lib.hid hno
                        clear hno hT B0
                        have y0 := SS.out.x.c5
                        have e0 := SS.out.d5
                        have hn : h.r.n ≤ 140737488351232 := HA.out.nr.2
                        by_cases hlt : k < h.r.n
                        · have hlt2 : k < g.r.n := by have := L5.out; omega
                          have hi1 : (k : Int) < (h.r.n : Int) := by omega
                          have hi2 : (k : Int) < (g.r.n : Int) := by omega
                          have hi0 : (0 : Int) ≤ (k : Int) := by omega
                          obtain ⟨a1, x, had, hx, hab, hc⟩ := Reads.elem (f := RealD.cells) (fun _ => rfl) (HA.out.r.below SS.out.x.b) HA.out.nr.1 hlt
                          obtain ⟨a2, y, had2, hy, hab2, hd⟩ := Reads.elem (f := RealD.cells) (fun _ => rfl) (HB.out.r.below SS.out.x.b) HB.out.nr.1 hlt2
                          have c0 := hc 0 _ (by omega) rfl
                          rw [show (a1.add (k * 2)).add 0 = a1.add (k * 2) from rfl] at c0
                          have c1 := hc 1 _ (by omega) rfl
                          rw [show (a1.add (k * 2)).add 1 = { block := (a1.add (k * 2)).block, off := (a1.add (k * 2)).off + 1 } from rfl] at c1
                          have d0 := hd 0 _ (by omega) rfl
                          rw [show (a2.add (k * 2)).add 0 = a2.add (k * 2) from rfl] at d0
                          have d1 := hd 1 _ (by omega) rfl
                          rw [show (a2.add (k * 2)).add 1 = { block := (a2.add (k * 2)).block, off := (a2.add (k * 2)).off + 1 } from rfl] at d1
                          rw [had] at y0
                          rw [had2] at e0
                          have HX := Lib.hid hx
                          have HY := Lib.hid hy
                          clear hx hy hc hd had had2 hab hab2
                          have hq := neq_real x y
                          by_cases hne : x = y
                          · rw [decide_eq_true hne] at hq
                            have HE := Lib.hid hne
                            clear hne
                            go_wp2
                            go_quiet (fail)
                            go_wp2
                            go_roundw
                            case rel => exact ⟨k + 1, by omega, by go_num, SS.out.drewN _, upto_eq HX.out HY.out HE.out HNO.out⟩
                            case measure => simp [intOf]; omega
                          · rw [decide_eq_false hne] at hq
                            have HN := Lib.hid (code_ne (a := a) (b := b) fun e => ne_of_at HX.out HY.out hne e.2.2.2.2.2.1)
                            clear hne
                            go_wp2
                            go_quiet (fail)
                            go_wp2
                            go_ret
                            exact ⟨ret_bool HN.out.symm, (SS.out.drewN _).x.b⟩
                        · have E5 := Lib.hid (eq_of_all HA.out.nr.1 HB.out.nr.1 L5.out hlt HNO.out)
                          have HT : Hid (decide (a = b) = true) := Lib.hid (decide_eq_true (by
                            obtain ⟨a0, a1, a2, a3, a4, a5, a6⟩ := a
                            obtain ⟨b0, b1, b2, b3, b4, b5, b6⟩ := b
                            have q0 := E0.out; have q1 := E1.out; have q2 := E2.out; have q3 := E3.out; have q4 := E4.out; have q5 := E5.out; have q6 := OE.out
                            simp only at q0 q1 q2 q3 q4 q5 q6
                            rw [q0, q1, q2, q3, q4, q5, q6]))
                          go_wp2
                          go_ret
                          exact ⟨ret_bool HT.out.symm, SS.out.x.b⟩
end Go.Proofs.YtmfnholhhakgaaaGreatDoor
