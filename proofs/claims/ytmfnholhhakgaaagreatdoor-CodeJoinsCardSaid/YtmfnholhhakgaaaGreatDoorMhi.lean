/- Same: the tables compared. -/
import Derived.Test.YtmfnholhhakgaaaGreatDoorMhh
import Derived.Laws.StructEq
import Derived.Laws.EntriesVeiled
section
namespace Go.Proofs.YtmfnholhhakgaaaGreatDoor
open Go Go.Proofs Go.RowKit Go.Sort
open Classical

theorem eq_of_all {α : Type} {xs ys : List α} {n m k : Nat} (hn : n = xs.length) (hm : m = ys.length) (e : n = m) (hk : ¬ k < n) (h : ∀ j, j < k → xs[j]? = ys[j]?) : xs = ys := by
  apply List.ext_getElem?
  intro j
  by_cases hj : j < k
  · exact h j hj
  · rw [List.getElem?_eq_none (by omega), List.getElem?_eq_none (by omega)]
theorem ne_of_at {α : Type} {xs ys : List α} {k : Nat} {x y : α} (hx : xs[k]? = some x) (hy : ys[k]? = some y) (h : ¬ x = y) : ¬ xs = ys := by
  rintro rfl
  rw [hx] at hy
  exact h (Option.some.inj hy)
theorem ne_of_len {α : Type} {xs ys : List α} {n m : Nat} (hn : n = xs.length) (hm : m = ys.length) (h : ((n : Int) != (m : Int)) = true) : ¬ xs = ys := by
  rintro rfl
  simp at h
  omega
theorem len_of_eq {n m : Nat} (h : ((n : Int) != (m : Int)) = false) : n = m := by simp at h; omega

theorem neq_instr (x y : InstrD) (w : World) : (binOp .neq 52 (.agg #[.int .i64 x.op, .int .i64 x.a, .int .i64 x.b, .int .i64 x.c]) (.agg #[.int .i64 y.op, .int .i64 y.a, .int .i64 y.b, .int .i64 y.c])).run Tryz.prog w = .ok (.bool (!decide (x = y))) w := by
  have u3 := Tryz.underlying3
  have a3 := Tryz.isAgg3
  have z3 := Tryz.sizeOf3
  have u4 := Tryz.underlying4
  have a4 := Tryz.isAgg4
  have z4 := Tryz.sizeOf4
  have hS : Tryz.prog.underlying 52 = some (.struct (Tryz.prog.fieldsOf 52)) := by kernel_rfl
  have hp : Tryz.prog.stoodInHeld 52 = false := by kernel_rfl
  rw [run_neq_struct, show (10000 : Nat) = 9999 + 1 from rfl, run_equalIn_agg w 9999 52 _ _ hS hp]
  simp only [Program.fieldsOf, Tryz.underlying52]
  go_simp
  obtain ⟨x0, x1, x2, x3⟩ := x
  obtain ⟨y0, y1, y2, y3⟩ := y
  simp only [InstrD.mk.injEq]
  by_cases h0 : x0 = y0 <;> by_cases h1 : x1 = y1 <;> by_cases h2 : x2 = y2 <;> by_cases h3 : x3 = y3 <;> simp [h0, h1, h2, h3]

set_option maxHeartbeats 2000000 in
theorem equal_instr (A1 A2 : Option Addr) (n c m d : Nat) (xs ys : List InstrD) (B : Nat) (w : World) (h1 : Reads w B 4 A1 n (xs.flatMap InstrD.cells)) (h2 : Reads w B 4 A2 m (ys.flatMap InstrD.cells)) (hl1 : n = xs.length) (hl2 : m = ys.length) (hn : n ≤ 140737488351232) (hB : B ≤ w.heap.size) :
    Calls Tryz.prog 48 #[.slice A1 n c, .slice A2 m d] w fun e w' => e = .returned (.bool (decide (xs = ys))) ∧ Below w.heap.size w w' := by
  have R1 := Lib.hid (h1.more hB)
  have R2 := Lib.hid (h2.more hB)
  have N1 := Lib.hid hl1
  have N2 := Lib.hid hl2
  clear h1 h2 hl1 hl2 hB
  cases hnm : ((n : Int) != (m : Int)) with
  | true =>
    have HH := Lib.hid (ne_of_len N1.out N2.out hnm)
    go_enter Tryz.func48, Tryz.ntmps48
    go_wp2
    go_ret
    exact ⟨ret_bool (decide_eq_false HH.out).symm, Below.refl _ _⟩
  | false =>
    have NM := Lib.hid (len_of_eq hnm)
    go_enter Tryz.func48, Tryz.ntmps48
    go_wp2
    go_loopw [13] (fun i wr => ∃ k : Nat, k ≤ n ∧ i = .int .i64 k ∧ Below w.heap.size w wr ∧ ∀ (j : Nat), j < k → xs[j]? = ys[j]?) (fun i _ => n - (intOf i).toNat)
    case atStart => exact ⟨0, by omega, rfl, Below.refl _ _, fun j hj => by omega⟩
    case round =>
      obtain ⟨k, hk, rfl, hb, hall⟩ := hrel
      have HB := Lib.hid hb
      have HA := Lib.hid hall
      clear hb hall
      by_cases hlt : k < n
      · obtain ⟨a1, x, rfl, hx, hb1, hc⟩ := Reads.elem (f := InstrD.cells) (fun _ => rfl) (R1.out.below HB.out) N1.out hlt
        obtain ⟨a2, y, rfl, hy, hb2, hd⟩ := Reads.elem (f := InstrD.cells) (fun _ => rfl) (R2.out.below HB.out) N2.out (k := k) (by have := NM.out; omega)
        have c0 := hc 0 _ (by omega) rfl
        have c1 := hc 1 _ (by omega) rfl
        have c2 := hc 2 _ (by omega) rfl
        have c3 := hc 3 _ (by omega) rfl
        rw [show (a1.add (k * 4)).add 0 = a1.add (k * 4) from rfl] at c0
        rw [show (a1.add (k * 4)).add 1 = { block := (a1.add (k * 4)).block, off := (a1.add (k * 4)).off + 1 } from rfl] at c1
        rw [show (a1.add (k * 4)).add 2 = { block := (a1.add (k * 4)).block, off := (a1.add (k * 4)).off + 2 } from rfl] at c2
        rw [show (a1.add (k * 4)).add 3 = { block := (a1.add (k * 4)).block, off := (a1.add (k * 4)).off + 3 } from rfl] at c3
        have d0 := hd 0 _ (by omega) rfl
        have d1 := hd 1 _ (by omega) rfl
        have d2 := hd 2 _ (by omega) rfl
        have d3 := hd 3 _ (by omega) rfl
        rw [show (a2.add (k * 4)).add 0 = a2.add (k * 4) from rfl] at d0
        rw [show (a2.add (k * 4)).add 1 = { block := (a2.add (k * 4)).block, off := (a2.add (k * 4)).off + 1 } from rfl] at d1
        rw [show (a2.add (k * 4)).add 2 = { block := (a2.add (k * 4)).block, off := (a2.add (k * 4)).off + 2 } from rfl] at d2
        rw [show (a2.add (k * 4)).add 3 = { block := (a2.add (k * 4)).block, off := (a2.add (k * 4)).off + 3 } from rfl] at d3
        have hlt2 : k < m := by have := NM.out; omega
        have hi1 : (k : Int) < (n : Int) := by omega
        have hi2 : (k : Int) < (m : Int) := by omega
        have hi0 : (0 : Int) ≤ (k : Int) := by omega
        have HX := Lib.hid hx
        have HY := Lib.hid hy
        clear hx hy hc hd
        have hq := neq_instr x y
        by_cases hne : x = y
        · rw [decide_eq_true hne] at hq
          have HNE := Lib.hid hne
          clear hne
          go_wp2
          go_quiet (fail)
          go_wp2
          go_roundw
          case rel => exact ⟨k + 1, by omega, by go_num, below_drewN HB.out _, fun j hj => by
            rcases Nat.lt_succ_iff_lt_or_eq.1 hj with h | rfl
            · exact HA.out j h
            · rw [HX.out, HY.out, HNE.out]⟩
          case measure => simp [intOf]; omega
        · rw [decide_eq_false hne] at hq
          have HH := Lib.hid (ne_of_at HX.out HY.out hne)
          clear hne
          go_wp2
          go_quiet (fail)
          go_wp2
          go_ret
          exact ⟨ret_bool (decide_eq_false HH.out).symm, below_drewN HB.out _⟩
      · have HH := Lib.hid (eq_of_all N1.out N2.out NM.out hlt HA.out)
        go_wp2
        go_ret
        exact ⟨ret_bool (decide_eq_true HH.out).symm, HB.out⟩

theorem neq_proc (x y : ProcD) (w : World) : (binOp .neq 78 (.agg #[.int .i64 x.entry, .int .i64 x.params, .int .i64 x.type, .int .i64 x.slots, .bool x.std]) (.agg #[.int .i64 y.entry, .int .i64 y.params, .int .i64 y.type, .int .i64 y.slots, .bool y.std])).run Tryz.prog w = .ok (.bool (!decide (x = y))) w := by
  have u3 := Tryz.underlying3
  have a3 := Tryz.isAgg3
  have z3 := Tryz.sizeOf3
  have u4 := Tryz.underlying4
  have a4 := Tryz.isAgg4
  have z4 := Tryz.sizeOf4
  have hS : Tryz.prog.underlying 78 = some (.struct (Tryz.prog.fieldsOf 78)) := by kernel_rfl
  have hp : Tryz.prog.stoodInHeld 78 = false := by kernel_rfl
  rw [run_neq_struct, show (10000 : Nat) = 9999 + 1 from rfl, run_equalIn_agg w 9999 78 _ _ hS hp]
  simp only [Program.fieldsOf, Tryz.underlying78]
  go_simp
  obtain ⟨x0, x1, x2, x3, x4⟩ := x
  obtain ⟨y0, y1, y2, y3, y4⟩ := y
  simp only [ProcD.mk.injEq]
  by_cases h0 : x0 = y0 <;> by_cases h1 : x1 = y1 <;> by_cases h2 : x2 = y2 <;> by_cases h3 : x3 = y3 <;> by_cases h4 : x4 = y4 <;> simp [h0, h1, h2, h3, h4]

set_option maxHeartbeats 2000000 in
theorem equal_proc (A1 A2 : Option Addr) (n c m d : Nat) (xs ys : List ProcD) (B : Nat) (w : World) (h1 : Reads w B 5 A1 n (xs.flatMap ProcD.cells)) (h2 : Reads w B 5 A2 m (ys.flatMap ProcD.cells)) (hl1 : n = xs.length) (hl2 : m = ys.length) (hn : n ≤ 140737488351232) (hB : B ≤ w.heap.size) :
    Calls Tryz.prog 49 #[.slice A1 n c, .slice A2 m d] w fun e w' => e = .returned (.bool (decide (xs = ys))) ∧ Below w.heap.size w w' := by
  have R1 := Lib.hid (h1.more hB)
  have R2 := Lib.hid (h2.more hB)
  have N1 := Lib.hid hl1
  have N2 := Lib.hid hl2
  clear h1 h2 hl1 hl2 hB
  cases hnm : ((n : Int) != (m : Int)) with
  | true =>
    have HH := Lib.hid (ne_of_len N1.out N2.out hnm)
    go_enter Tryz.func49, Tryz.ntmps49
    go_wp2
    go_ret
    exact ⟨ret_bool (decide_eq_false HH.out).symm, Below.refl _ _⟩
  | false =>
    have NM := Lib.hid (len_of_eq hnm)
    go_enter Tryz.func49, Tryz.ntmps49
    go_wp2
    go_loopw [13] (fun i wr => ∃ k : Nat, k ≤ n ∧ i = .int .i64 k ∧ Below w.heap.size w wr ∧ ∀ (j : Nat), j < k → xs[j]? = ys[j]?) (fun i _ => n - (intOf i).toNat)
    case atStart => exact ⟨0, by omega, rfl, Below.refl _ _, fun j hj => by omega⟩
    case round =>
      obtain ⟨k, hk, rfl, hb, hall⟩ := hrel
      have HB := Lib.hid hb
      have HA := Lib.hid hall
      clear hb hall
      by_cases hlt : k < n
      · obtain ⟨a1, x, rfl, hx, hb1, hc⟩ := Reads.elem (f := ProcD.cells) (fun _ => rfl) (R1.out.below HB.out) N1.out hlt
        obtain ⟨a2, y, rfl, hy, hb2, hd⟩ := Reads.elem (f := ProcD.cells) (fun _ => rfl) (R2.out.below HB.out) N2.out (k := k) (by have := NM.out; omega)
        have c0 := hc 0 _ (by omega) rfl
        have c1 := hc 1 _ (by omega) rfl
        have c2 := hc 2 _ (by omega) rfl
        have c3 := hc 3 _ (by omega) rfl
        have c4 := hc 4 _ (by omega) rfl
        rw [show (a1.add (k * 5)).add 0 = a1.add (k * 5) from rfl] at c0
        rw [show (a1.add (k * 5)).add 1 = { block := (a1.add (k * 5)).block, off := (a1.add (k * 5)).off + 1 } from rfl] at c1
        rw [show (a1.add (k * 5)).add 2 = { block := (a1.add (k * 5)).block, off := (a1.add (k * 5)).off + 2 } from rfl] at c2
        rw [show (a1.add (k * 5)).add 3 = { block := (a1.add (k * 5)).block, off := (a1.add (k * 5)).off + 3 } from rfl] at c3
        rw [show (a1.add (k * 5)).add 4 = { block := (a1.add (k * 5)).block, off := (a1.add (k * 5)).off + 4 } from rfl] at c4
        have d0 := hd 0 _ (by omega) rfl
        have d1 := hd 1 _ (by omega) rfl
        have d2 := hd 2 _ (by omega) rfl
        have d3 := hd 3 _ (by omega) rfl
        have d4 := hd 4 _ (by omega) rfl
        rw [show (a2.add (k * 5)).add 0 = a2.add (k * 5) from rfl] at d0
        rw [show (a2.add (k * 5)).add 1 = { block := (a2.add (k * 5)).block, off := (a2.add (k * 5)).off + 1 } from rfl] at d1
        rw [show (a2.add (k * 5)).add 2 = { block := (a2.add (k * 5)).block, off := (a2.add (k * 5)).off + 2 } from rfl] at d2
        rw [show (a2.add (k * 5)).add 3 = { block := (a2.add (k * 5)).block, off := (a2.add (k * 5)).off + 3 } from rfl] at d3
        rw [show (a2.add (k * 5)).add 4 = { block := (a2.add (k * 5)).block, off := (a2.add (k * 5)).off + 4 } from rfl] at d4
        have hlt2 : k < m := by have := NM.out; omega
        have hi1 : (k : Int) < (n : Int) := by omega
        have hi2 : (k : Int) < (m : Int) := by omega
        have hi0 : (0 : Int) ≤ (k : Int) := by omega
        have HX := Lib.hid hx
        have HY := Lib.hid hy
        clear hx hy hc hd
        have hq := neq_proc x y
        by_cases hne : x = y
        · rw [decide_eq_true hne] at hq
          have HNE := Lib.hid hne
          clear hne
          go_wp2
          go_quiet (fail)
          go_wp2
          go_roundw
          case rel => exact ⟨k + 1, by omega, by go_num, below_drewN HB.out _, fun j hj => by
            rcases Nat.lt_succ_iff_lt_or_eq.1 hj with h | rfl
            · exact HA.out j h
            · rw [HX.out, HY.out, HNE.out]⟩
          case measure => simp [intOf]; omega
        · rw [decide_eq_false hne] at hq
          have HH := Lib.hid (ne_of_at HX.out HY.out hne)
          clear hne
          go_wp2
          go_quiet (fail)
          go_wp2
          go_ret
          exact ⟨ret_bool (decide_eq_false HH.out).symm, below_drewN HB.out _⟩
      · have HH := Lib.hid (eq_of_all N1.out N2.out NM.out hlt HA.out)
        go_wp2
        go_ret
        exact ⟨ret_bool (decide_eq_true HH.out).symm, HB.out⟩

theorem neq_thunk (x y : ThunkD) (w : World) : (binOp .neq 94 (.agg #[.int .i64 x.value, .int .i64 x.address, .int .i64 x.desig]) (.agg #[.int .i64 y.value, .int .i64 y.address, .int .i64 y.desig])).run Tryz.prog w = .ok (.bool (!decide (x = y))) w := by
  have u3 := Tryz.underlying3
  have a3 := Tryz.isAgg3
  have z3 := Tryz.sizeOf3
  have u4 := Tryz.underlying4
  have a4 := Tryz.isAgg4
  have z4 := Tryz.sizeOf4
  have hS : Tryz.prog.underlying 94 = some (.struct (Tryz.prog.fieldsOf 94)) := by kernel_rfl
  have hp : Tryz.prog.stoodInHeld 94 = false := by kernel_rfl
  rw [run_neq_struct, show (10000 : Nat) = 9999 + 1 from rfl, run_equalIn_agg w 9999 94 _ _ hS hp]
  simp only [Program.fieldsOf, Tryz.underlying94]
  go_simp
  obtain ⟨x0, x1, x2⟩ := x
  obtain ⟨y0, y1, y2⟩ := y
  simp only [ThunkD.mk.injEq]
  by_cases h0 : x0 = y0 <;> by_cases h1 : x1 = y1 <;> by_cases h2 : x2 = y2 <;> simp [h0, h1, h2]

set_option maxHeartbeats 2000000 in
theorem equal_thunk (A1 A2 : Option Addr) (n c m d : Nat) (xs ys : List ThunkD) (B : Nat) (w : World) (h1 : Reads w B 3 A1 n (xs.flatMap ThunkD.cells)) (h2 : Reads w B 3 A2 m (ys.flatMap ThunkD.cells)) (hl1 : n = xs.length) (hl2 : m = ys.length) (hn : n ≤ 140737488351232) (hB : B ≤ w.heap.size) :
    Calls Tryz.prog 50 #[.slice A1 n c, .slice A2 m d] w fun e w' => e = .returned (.bool (decide (xs = ys))) ∧ Below w.heap.size w w' := by
  have R1 := Lib.hid (h1.more hB)
  have R2 := Lib.hid (h2.more hB)
  have N1 := Lib.hid hl1
  have N2 := Lib.hid hl2
  clear h1 h2 hl1 hl2 hB
  cases hnm : ((n : Int) != (m : Int)) with
  | true =>
    have HH := Lib.hid (ne_of_len N1.out N2.out hnm)
    go_enter Tryz.func50, Tryz.ntmps50
    go_wp2
    go_ret
    exact ⟨ret_bool (decide_eq_false HH.out).symm, Below.refl _ _⟩
  | false =>
    have NM := Lib.hid (len_of_eq hnm)
    go_enter Tryz.func50, Tryz.ntmps50
    go_wp2
    go_loopw [13] (fun i wr => ∃ k : Nat, k ≤ n ∧ i = .int .i64 k ∧ Below w.heap.size w wr ∧ ∀ (j : Nat), j < k → xs[j]? = ys[j]?) (fun i _ => n - (intOf i).toNat)
    case atStart => exact ⟨0, by omega, rfl, Below.refl _ _, fun j hj => by omega⟩
    case round =>
      obtain ⟨k, hk, rfl, hb, hall⟩ := hrel
      have HB := Lib.hid hb
      have HA := Lib.hid hall
      clear hb hall
      by_cases hlt : k < n
      · obtain ⟨a1, x, rfl, hx, hb1, hc⟩ := Reads.elem (f := ThunkD.cells) (fun _ => rfl) (R1.out.below HB.out) N1.out hlt
        obtain ⟨a2, y, rfl, hy, hb2, hd⟩ := Reads.elem (f := ThunkD.cells) (fun _ => rfl) (R2.out.below HB.out) N2.out (k := k) (by have := NM.out; omega)
        have c0 := hc 0 _ (by omega) rfl
        have c1 := hc 1 _ (by omega) rfl
        have c2 := hc 2 _ (by omega) rfl
        rw [show (a1.add (k * 3)).add 0 = a1.add (k * 3) from rfl] at c0
        rw [show (a1.add (k * 3)).add 1 = { block := (a1.add (k * 3)).block, off := (a1.add (k * 3)).off + 1 } from rfl] at c1
        rw [show (a1.add (k * 3)).add 2 = { block := (a1.add (k * 3)).block, off := (a1.add (k * 3)).off + 2 } from rfl] at c2
        have d0 := hd 0 _ (by omega) rfl
        have d1 := hd 1 _ (by omega) rfl
        have d2 := hd 2 _ (by omega) rfl
        rw [show (a2.add (k * 3)).add 0 = a2.add (k * 3) from rfl] at d0
        rw [show (a2.add (k * 3)).add 1 = { block := (a2.add (k * 3)).block, off := (a2.add (k * 3)).off + 1 } from rfl] at d1
        rw [show (a2.add (k * 3)).add 2 = { block := (a2.add (k * 3)).block, off := (a2.add (k * 3)).off + 2 } from rfl] at d2
        have hlt2 : k < m := by have := NM.out; omega
        have hi1 : (k : Int) < (n : Int) := by omega
        have hi2 : (k : Int) < (m : Int) := by omega
        have hi0 : (0 : Int) ≤ (k : Int) := by omega
        have HX := Lib.hid hx
        have HY := Lib.hid hy
        clear hx hy hc hd
        have hq := neq_thunk x y
        by_cases hne : x = y
        · rw [decide_eq_true hne] at hq
          have HNE := Lib.hid hne
          clear hne
          go_wp2
          go_quiet (fail)
          go_wp2
          go_roundw
          case rel => exact ⟨k + 1, by omega, by go_num, below_drewN HB.out _, fun j hj => by
            rcases Nat.lt_succ_iff_lt_or_eq.1 hj with h | rfl
            · exact HA.out j h
            · rw [HX.out, HY.out, HNE.out]⟩
          case measure => simp [intOf]; omega
        · rw [decide_eq_false hne] at hq
          have HH := Lib.hid (ne_of_at HX.out HY.out hne)
          clear hne
          go_wp2
          go_quiet (fail)
          go_wp2
          go_ret
          exact ⟨ret_bool (decide_eq_false HH.out).symm, below_drewN HB.out _⟩
      · have HH := Lib.hid (eq_of_all N1.out N2.out NM.out hlt HA.out)
        go_wp2
        go_ret
        exact ⟨ret_bool (decide_eq_true HH.out).symm, HB.out⟩

theorem neq_real (x y : RealD) (w : World) : (binOp .neq 99 (.agg #[.int .i64 x.man, .int .i64 x.exp]) (.agg #[.int .i64 y.man, .int .i64 y.exp])).run Tryz.prog w = .ok (.bool (!decide (x = y))) w := by
  have u3 := Tryz.underlying3
  have a3 := Tryz.isAgg3
  have z3 := Tryz.sizeOf3
  have u4 := Tryz.underlying4
  have a4 := Tryz.isAgg4
  have z4 := Tryz.sizeOf4
  have hS : Tryz.prog.underlying 99 = some (.struct (Tryz.prog.fieldsOf 99)) := by kernel_rfl
  have hp : Tryz.prog.stoodInHeld 99 = false := by kernel_rfl
  rw [run_neq_struct, show (10000 : Nat) = 9999 + 1 from rfl, run_equalIn_agg w 9999 99 _ _ hS hp]
  simp only [Program.fieldsOf, Tryz.underlying99]
  go_simp
  obtain ⟨x0, x1⟩ := x
  obtain ⟨y0, y1⟩ := y
  simp only [RealD.mk.injEq]
  by_cases h0 : x0 = y0 <;> by_cases h1 : x1 = y1 <;> simp [h0, h1]

set_option maxHeartbeats 2000000 in
theorem equal_real (A1 A2 : Option Addr) (n c m d : Nat) (xs ys : List RealD) (B : Nat) (w : World) (h1 : Reads w B 2 A1 n (xs.flatMap RealD.cells)) (h2 : Reads w B 2 A2 m (ys.flatMap RealD.cells)) (hl1 : n = xs.length) (hl2 : m = ys.length) (hn : n ≤ 140737488351232) (hB : B ≤ w.heap.size) :
    Calls Tryz.prog 55 #[.slice A1 n c, .slice A2 m d] w fun e w' => e = .returned (.bool (decide (xs = ys))) ∧ Below w.heap.size w w' := by
  have R1 := Lib.hid (h1.more hB)
  have R2 := Lib.hid (h2.more hB)
  have N1 := Lib.hid hl1
  have N2 := Lib.hid hl2
  clear h1 h2 hl1 hl2 hB
  cases hnm : ((n : Int) != (m : Int)) with
  | true =>
    have HH := Lib.hid (ne_of_len N1.out N2.out hnm)
    go_enter Tryz.func55, Tryz.ntmps55
    go_wp2
    go_ret
    exact ⟨ret_bool (decide_eq_false HH.out).symm, Below.refl _ _⟩
  | false =>
    have NM := Lib.hid (len_of_eq hnm)
    go_enter Tryz.func55, Tryz.ntmps55
    go_wp2
    go_loopw [13] (fun i wr => ∃ k : Nat, k ≤ n ∧ i = .int .i64 k ∧ Below w.heap.size w wr ∧ ∀ (j : Nat), j < k → xs[j]? = ys[j]?) (fun i _ => n - (intOf i).toNat)
    case atStart => exact ⟨0, by omega, rfl, Below.refl _ _, fun j hj => by omega⟩
    case round =>
      obtain ⟨k, hk, rfl, hb, hall⟩ := hrel
      have HB := Lib.hid hb
      have HA := Lib.hid hall
      clear hb hall
      by_cases hlt : k < n
      · obtain ⟨a1, x, rfl, hx, hb1, hc⟩ := Reads.elem (f := RealD.cells) (fun _ => rfl) (R1.out.below HB.out) N1.out hlt
        obtain ⟨a2, y, rfl, hy, hb2, hd⟩ := Reads.elem (f := RealD.cells) (fun _ => rfl) (R2.out.below HB.out) N2.out (k := k) (by have := NM.out; omega)
        have c0 := hc 0 _ (by omega) rfl
        have c1 := hc 1 _ (by omega) rfl
        rw [show (a1.add (k * 2)).add 0 = a1.add (k * 2) from rfl] at c0
        rw [show (a1.add (k * 2)).add 1 = { block := (a1.add (k * 2)).block, off := (a1.add (k * 2)).off + 1 } from rfl] at c1
        have d0 := hd 0 _ (by omega) rfl
        have d1 := hd 1 _ (by omega) rfl
        rw [show (a2.add (k * 2)).add 0 = a2.add (k * 2) from rfl] at d0
        rw [show (a2.add (k * 2)).add 1 = { block := (a2.add (k * 2)).block, off := (a2.add (k * 2)).off + 1 } from rfl] at d1
        have hlt2 : k < m := by have := NM.out; omega
        have hi1 : (k : Int) < (n : Int) := by omega
        have hi2 : (k : Int) < (m : Int) := by omega
        have hi0 : (0 : Int) ≤ (k : Int) := by omega
        have HX := Lib.hid hx
        have HY := Lib.hid hy
        clear hx hy hc hd
        have hq := neq_real x y
        by_cases hne : x = y
        · rw [decide_eq_true hne] at hq
          have HNE := Lib.hid hne
          clear hne
          go_wp2
          go_quiet (fail)
          go_wp2
          go_roundw
          case rel => exact ⟨k + 1, by omega, by go_num, below_drewN HB.out _, fun j hj => by
            rcases Nat.lt_succ_iff_lt_or_eq.1 hj with h | rfl
            · exact HA.out j h
            · rw [HX.out, HY.out, HNE.out]⟩
          case measure => simp [intOf]; omega
        · rw [decide_eq_false hne] at hq
          have HH := Lib.hid (ne_of_at HX.out HY.out hne)
          clear hne
          go_wp2
          go_quiet (fail)
          go_wp2
          go_ret
          exact ⟨ret_bool (decide_eq_false HH.out).symm, below_drewN HB.out _⟩
      · have HH := Lib.hid (eq_of_all N1.out N2.out NM.out hlt HA.out)
        go_wp2
        go_ret
        exact ⟨ret_bool (decide_eq_true HH.out).symm, HB.out⟩

set_option maxHeartbeats 2000000 in
theorem equal_ints (A1 A2 : Option Addr) (n c m d : Nat) (xs ys : List Int) (B : Nat) (w : World) (h1 : Reads w B 1 A1 n (intCells xs)) (h2 : Reads w B 1 A2 m (intCells ys)) (hl1 : n = xs.length) (hl2 : m = ys.length) (hn : n ≤ 140737488351232) (hB : B ≤ w.heap.size) :
    Calls Tryz.prog 53 #[.slice A1 n c, .slice A2 m d] w fun e w' => e = .returned (.bool (decide (xs = ys))) ∧ Below w.heap.size w w' := by
  have R1 := Lib.hid (h1.more hB)
  have R2 := Lib.hid (h2.more hB)
  have N1 := Lib.hid hl1
  have N2 := Lib.hid hl2
  clear h1 h2 hl1 hl2 hB
  cases hnm : ((n : Int) != (m : Int)) with
  | true =>
    have HH := Lib.hid (ne_of_len N1.out N2.out hnm)
    go_enter Tryz.func53, Tryz.ntmps53
    go_wp2
    go_ret
    exact ⟨ret_bool (decide_eq_false HH.out).symm, Below.refl _ _⟩
  | false =>
    have NM := Lib.hid (len_of_eq hnm)
    go_enter Tryz.func53, Tryz.ntmps53
    go_wp2
    go_loopw [13] (fun i wr => ∃ k : Nat, k ≤ n ∧ i = .int .i64 k ∧ Below w.heap.size w wr ∧ ∀ (j : Nat), j < k → xs[j]? = ys[j]?) (fun i _ => n - (intOf i).toNat)
    case atStart => exact ⟨0, by omega, rfl, Below.refl _ _, fun j hj => by omega⟩
    case round =>
      obtain ⟨k, hk, rfl, hb, hall⟩ := hrel
      have HB := Lib.hid hb
      have HA := Lib.hid hall
      clear hb hall
      by_cases hlt : k < n
      · obtain ⟨a1, x, rfl, hx, hb1, hc1⟩ := Reads.elem1 (R1.out.below HB.out) N1.out hlt
        obtain ⟨a2, y, rfl, hy, hb2, hc2⟩ := Reads.elem1 (R2.out.below HB.out) N2.out (k := k) (by have := NM.out; omega)
        have hlt2 : k < m := by have := NM.out; omega
        have hi1 : (k : Int) < (n : Int) := by omega
        have hi2 : (k : Int) < (m : Int) := by omega
        have hi0 : (0 : Int) ≤ (k : Int) := by omega
        have HX := Lib.hid hx
        have HY := Lib.hid hy
        clear hx hy
        by_cases hne : x = y
        · have hv : (x != y) = false := by simp [hne]
          have HNE := Lib.hid hne
          clear hne
          go_wp2
          go_quiet (fail)
          go_wp2
          go_roundw
          case rel => exact ⟨k + 1, by omega, by go_num, below_drewN HB.out _, fun j hj => by
            rcases Nat.lt_succ_iff_lt_or_eq.1 hj with h | rfl
            · exact HA.out j h
            · rw [HX.out, HY.out, HNE.out]⟩
          case measure => simp [intOf]; omega
        · have hv : (x != y) = true := by simp [hne]
          have HH := Lib.hid (ne_of_at HX.out HY.out hne)
          clear hne
          go_wp2
          go_quiet (fail)
          go_wp2
          go_ret
          exact ⟨ret_bool (decide_eq_false HH.out).symm, below_drewN HB.out _⟩
      · have HH := Lib.hid (eq_of_all N1.out N2.out NM.out hlt HA.out)
        go_wp2
        go_ret
        exact ⟨ret_bool (decide_eq_true HH.out).symm, HB.out⟩

set_option maxHeartbeats 2000000 in
theorem equal_strs (A1 A2 : Option Addr) (n c m d : Nat) (xs ys : List ByteArray) (B : Nat) (w : World) (h1 : Reads w B 1 A1 n (strCells xs)) (h2 : Reads w B 1 A2 m (strCells ys)) (hl1 : n = xs.length) (hl2 : m = ys.length) (hn : n ≤ 140737488351232) (hB : B ≤ w.heap.size) :
    Calls Tryz.prog 54 #[.slice A1 n c, .slice A2 m d] w fun e w' => e = .returned (.bool (decide (xs = ys))) ∧ Below w.heap.size w w' := by
  have R1 := Lib.hid (h1.more hB)
  have R2 := Lib.hid (h2.more hB)
  have N1 := Lib.hid hl1
  have N2 := Lib.hid hl2
  clear h1 h2 hl1 hl2 hB
  cases hnm : ((n : Int) != (m : Int)) with
  | true =>
    have HH := Lib.hid (ne_of_len N1.out N2.out hnm)
    go_enter Tryz.func54, Tryz.ntmps54
    go_wp2
    go_ret
    exact ⟨ret_bool (decide_eq_false HH.out).symm, Below.refl _ _⟩
  | false =>
    have NM := Lib.hid (len_of_eq hnm)
    go_enter Tryz.func54, Tryz.ntmps54
    go_wp2
    go_loopw [13] (fun i wr => ∃ k : Nat, k ≤ n ∧ i = .int .i64 k ∧ Below w.heap.size w wr ∧ ∀ (j : Nat), j < k → xs[j]? = ys[j]?) (fun i _ => n - (intOf i).toNat)
    case atStart => exact ⟨0, by omega, rfl, Below.refl _ _, fun j hj => by omega⟩
    case round =>
      obtain ⟨k, hk, rfl, hb, hall⟩ := hrel
      have HB := Lib.hid hb
      have HA := Lib.hid hall
      clear hb hall
      by_cases hlt : k < n
      · obtain ⟨a1, x, rfl, hx, hb1, hc1⟩ := Reads.elem1 (R1.out.below HB.out) N1.out hlt
        obtain ⟨a2, y, rfl, hy, hb2, hc2⟩ := Reads.elem1 (R2.out.below HB.out) N2.out (k := k) (by have := NM.out; omega)
        have hlt2 : k < m := by have := NM.out; omega
        have hi1 : (k : Int) < (n : Int) := by omega
        have hi2 : (k : Int) < (m : Int) := by omega
        have hi0 : (0 : Int) ≤ (k : Int) := by omega
        have HX := Lib.hid hx
        have HY := Lib.hid hy
        clear hx hy
        by_cases hne : x = y
        · have hv : (x.toList == y.toList) = true := by rw [hne]; exact beq_self_eq_true _
          have HNE := Lib.hid hne
          clear hne
          go_wp2
          go_quiet (fail)
          go_wp2
          go_roundw
          case rel => exact ⟨k + 1, by omega, by go_num, below_drewN HB.out _, fun j hj => by
            rcases Nat.lt_succ_iff_lt_or_eq.1 hj with h | rfl
            · exact HA.out j h
            · rw [HX.out, HY.out, HNE.out]⟩
          case measure => simp [intOf]; omega
        · have hv : (x.toList == y.toList) = false := by cases h : (x.toList == y.toList) with | false => rfl | true => exact absurd (bytes_eq h) hne
          have HH := Lib.hid (ne_of_at HX.out HY.out hne)
          clear hne
          go_wp2
          go_quiet (fail)
          go_wp2
          go_ret
          exact ⟨ret_bool (decide_eq_false HH.out).symm, below_drewN HB.out _⟩
      · have HH := Lib.hid (eq_of_all N1.out N2.out NM.out hlt HA.out)
        go_wp2
        go_ret
        exact ⟨ret_bool (decide_eq_true HH.out).symm, HB.out⟩
end Go.Proofs.YtmfnholhhakgaaaGreatDoor
end
section
namespace Go.Proofs.YtmfnholhhakgaaaGreatDoor
open Go Go.Proofs Go.RowKit Go.Sort
open Classical

theorem enters52 : Enters 52 := enters_of Tryz.func52 (by kernel_rfl) rfl

theorem same1_any (A1 A2 : Option Addr) (n c m d : Nat) (xs ys : List Int) (B : Nat) (w : World) (h1 : Reads w B 1 A1 n (intCells xs)) (h2 : Reads w B 1 A2 m (intCells ys)) (hl1 : n = xs.length) (hl2 : m = ys.length) (hn : n ≤ 140737488351232) (hB : B ≤ w.heap.size) :
    Calls Tryz.prog 52 #[.slice A1 n c, .slice A2 m d] w fun e w' => e = .returned (.bool (decide (xs = ys))) ∧ Below w.heap.size w w' := by
  have HH := Lib.hid (equal_ints A1 A2 n c m d xs ys B w h1 h2 hl1 hl2 hn hB)
  clear h1 h2 hl1 hl2 hn hB
  go_enter Tryz.func52, Tryz.ntmps52
  go_wp2_with (go_at_call 53; refine (HH.out).mono ?_; rintro e w1 ⟨rfl, hb1⟩; have HB := Lib.hid hb1; clear hb1)
  go_ret
  exact ⟨rfl, HB.out⟩

/-- The lists ls lie at the slice value of slices A n. -/
def SwAt (w : World) (B : Nat) (A : Option Addr) (n : Nat) (ls : List (List Int)) : Prop :=
  ∃ hs : List SH, Reads w B 1 A n (hs.map SH.v) ∧ hs.length = ls.length ∧ ∀ (k : Nat) (x : SH) (l : List Int), hs[k]? = some x → ls[k]? = some l → Reads w B 1 x.a x.n (intCells l) ∧ Small x.n
theorem SwAt.below {w w' : World} {B : Nat} {A : Option Addr} {n : Nat} {ls : List (List Int)} (H : SwAt w B A n ls) (hb : Below B w w') : SwAt w' B A n ls := by
  obtain ⟨hs, h1, h2, h3⟩ := H
  exact ⟨hs, h1.below hb, h2, fun k x l hx hl => ⟨(h3 k x l hx hl).1.below hb, (h3 k x l hx hl).2⟩⟩
theorem SwAt.more {w : World} {B B' : Nat} {A : Option Addr} {n : Nat} {ls : List (List Int)} (H : SwAt w B A n ls) (hb : B ≤ B') : SwAt w B' A n ls := by
  obtain ⟨hs, h1, h2, h3⟩ := H
  exact ⟨hs, h1.more hb, h2, fun k x l hx hl => ⟨(h3 k x l hx hl).1.more hb, (h3 k x l hx hl).2⟩⟩
/-- The k-th of the lists. -/
theorem SwAt.elem {w : World} {B : Nat} {A : Option Addr} {n : Nat} {ls : List (List Int)} (H : SwAt w B A n ls) (hn : n = ls.length) {k : Nat} (hk : k < n) :
    ∃ (ad : Addr) (sx : SH) (x : List Int), A = some ad ∧ ls[k]? = some x ∧ ad.block < B ∧ w.cell? (ad.add k) = some (.slice sx.a sx.n sx.c) ∧ Reads w B 1 sx.a sx.n (intCells x) ∧ sx.n = x.length ∧ sx.n ≤ 140737488351232 := by
  obtain ⟨hs, h1, h2, h3⟩ := H
  obtain ⟨ad, sx, had, hsk, hab, c0⟩ := Reads.elem1 (f := SH.v) h1 (by omega) hk
  obtain ⟨x, hx⟩ : ∃ x, ls[k]? = some x := ⟨_, List.getElem?_eq_getElem (by omega)⟩
  obtain ⟨hr, hsm⟩ := h3 k sx x hsk hx
  exact ⟨ad, sx, x, had, hx, hab, c0, hr, by have := hr.1; simp [intCells] at this; omega, hsm⟩

set_option maxHeartbeats 2000000 in
theorem equalFunc_sw (A1 A2 : Option Addr) (n c m d : Nat) (xs ys : List (List Int)) (B : Nat) (w : World) (h1 : SwAt w B A1 n xs) (h2 : SwAt w B A2 m ys) (hl1 : n = xs.length) (hl2 : m = ys.length) (hn : n ≤ 140737488351232) (hB : B ≤ w.heap.size) :
    Calls Tryz.prog 51 #[.slice A1 n c, .slice A2 m d, .func (.func 52) #[] #[]] w fun e w' => e = .returned (.bool (decide (xs = ys))) ∧ Below w.heap.size w w' := by
  have R1 := Lib.hid (h1.more hB)
  have R2 := Lib.hid (h2.more hB)
  have N1 := Lib.hid hl1
  have N2 := Lib.hid hl2
  have hen := fun a1 n1 c1 a2 n2 c2 w => enters52 (#[.slice a1 n1 c1, .slice a2 n2 c2] ++ #[]) w
  clear h1 h2 hl1 hl2 hB
  cases hnm : ((n : Int) != (m : Int)) with
  | true =>
    have HH := Lib.hid (ne_of_len N1.out N2.out hnm)
    go_enter Tryz.func51, Tryz.ntmps51
    go_wp2
    go_ret
    exact ⟨ret_bool (decide_eq_false HH.out).symm, Below.refl _ _⟩
  | false =>
    have NM := Lib.hid (len_of_eq hnm)
    go_enter Tryz.func51, Tryz.ntmps51
    go_wp2
    go_loopw [17] (fun i wr => ∃ k : Nat, k ≤ n ∧ i = .int .i64 k ∧ Below w.heap.size w wr ∧ ∀ (j : Nat), j < k → xs[j]? = ys[j]?) (fun i _ => n - (intOf i).toNat)
    case atStart => exact ⟨0, by omega, rfl, Below.refl _ _, fun j hj => by omega⟩
    case round =>
      obtain ⟨k, hk, rfl, hb, hall⟩ := hrel
      have HB := Lib.hid hb
      have HA := Lib.hid hall
      clear hb hall
      by_cases hlt : k < n
      · obtain ⟨a1, s1, x, rfl, hx, hb1, hc1, hr1, hn1, hs1⟩ := (R1.out.below HB.out).elem N1.out hlt
        obtain ⟨a2, s2, y, rfl, hy, hb2, hc2, hr2, hn2, hs2⟩ := (R2.out.below HB.out).elem N2.out (k := k) (by have := NM.out; omega)
        have hlt2 : k < m := by have := NM.out; omega
        have hi1 : (k : Int) < (n : Int) := by omega
        have hi2 : (k : Int) < (m : Int) := by omega
        have hi0 : (0 : Int) ≤ (k : Int) := by omega
        have HX := Lib.hid hx
        have HY := Lib.hid hy
        have HQ := Lib.hid (same1_any s1.a s2.a s1.n s1.c s2.n s2.c x y _ wr hr1 hr2 hn1 hn2 hs1 HB.out.size)
        clear hx hy hr1 hr2 hn1 hn2 hs1 hs2
        by_cases hne : x = y
        · rw [decide_eq_true hne] at HQ
          have HNE := Lib.hid hne
          clear hne
          go_wp2_with (refine (HQ.out).mono ?_; rintro e w1 ⟨rfl, hb1⟩; have HB1 := Lib.hid hb1; clear hb1)
          go_roundw
          case rel => exact ⟨k + 1, by omega, by go_num, HB.out.trans (HB1.out.mono HB.out.size), fun j hj => by
            rcases Nat.lt_succ_iff_lt_or_eq.1 hj with h | rfl
            · exact HA.out j h
            · rw [HX.out, HY.out, HNE.out]⟩
          case measure => simp [intOf]; omega
        · rw [decide_eq_false hne] at HQ
          have HH := Lib.hid (ne_of_at HX.out HY.out hne)
          clear hne
          go_wp2_with (refine (HQ.out).mono ?_; rintro e w1 ⟨rfl, hb1⟩; have HB1 := Lib.hid hb1; clear hb1)
          go_ret
          exact ⟨ret_bool (decide_eq_false HH.out).symm, HB.out.trans (HB1.out.mono HB.out.size)⟩
      · have HH := Lib.hid (eq_of_all N1.out N2.out NM.out hlt HA.out)
        go_wp2
        go_ret
        exact ⟨ret_bool (decide_eq_true HH.out).symm, HB.out⟩

/-- Two codes in their boxes N and N + 1. -/
structure SInv (N : Nat) (h g : CodeH) (w wr : World) : Prop where
  x : BInv N h w wr
  z : N + 2 ≤ wr.heap.size
  d0 : wr.cell? ⟨N + 1, 0, none⟩ = some (.slice g.i.a g.i.n g.i.c)
  d1 : wr.cell? ⟨N + 1, 1, none⟩ = some (.slice g.p.a g.p.n g.p.c)
  d2 : wr.cell? ⟨N + 1, 2, none⟩ = some (.slice g.t.a g.t.n g.t.c)
  d3 : wr.cell? ⟨N + 1, 3, none⟩ = some (.slice g.s.a g.s.n g.s.c)
  d4 : wr.cell? ⟨N + 1, 4, none⟩ = some (.slice g.g.a g.g.n g.g.c)
  d5 : wr.cell? ⟨N + 1, 5, none⟩ = some (.slice g.r.a g.r.n g.r.c)
  d6 : wr.cell? ⟨N + 1, 6, none⟩ = some (.slice g.o.a g.o.n g.o.c)
theorem SInv.to {N : Nat} {h g : CodeH} {w wr wx : World} (H : SInv N h g w wr) (hb : Below (N + 2) wr wx) : SInv N h g w wx :=
  { x := H.x.to (hb.mono (by omega)), z := Nat.le_trans H.z hb.size
    d0 := (hb.cell (p := ⟨N + 1, 0, none⟩) (by simp)).trans H.d0, d1 := (hb.cell (p := ⟨N + 1, 1, none⟩) (by simp)).trans H.d1, d2 := (hb.cell (p := ⟨N + 1, 2, none⟩) (by simp)).trans H.d2, d3 := (hb.cell (p := ⟨N + 1, 3, none⟩) (by simp)).trans H.d3, d4 := (hb.cell (p := ⟨N + 1, 4, none⟩) (by simp)).trans H.d4, d5 := (hb.cell (p := ⟨N + 1, 5, none⟩) (by simp)).trans H.d5, d6 := (hb.cell (p := ⟨N + 1, 6, none⟩) (by simp)).trans H.d6 }
theorem SInv.below {N : Nat} {h g : CodeH} {w wr wx : World} (H : SInv N h g w wr) (hb : Below wr.heap.size wr wx) : SInv N h g w wx := H.to (hb.mono H.z)
theorem SInv.start (h g : CodeH) (w : World) : SInv w.heap.size h g w ((w.alloc (.cells #[.slice h.i.a h.i.n h.i.c, .slice h.p.a h.p.n h.p.c, .slice h.t.a h.t.n h.t.c, .slice h.s.a h.s.n h.s.c, .slice h.g.a h.g.n h.g.c, .slice h.r.a h.r.n h.r.c, .slice h.o.a h.o.n h.o.c] 30)).alloc (.cells #[.slice g.i.a g.i.n g.i.c, .slice g.p.a g.p.n g.p.c, .slice g.t.a g.t.n g.t.c, .slice g.s.a g.s.n g.s.c, .slice g.g.a g.g.n g.g.c, .slice g.r.a g.r.n g.r.c, .slice g.o.a g.o.n g.o.c] 30)) := by
  have hn : ∀ (cs : Array Value) i, ((w.alloc (.cells #[.slice h.i.a h.i.n h.i.c, .slice h.p.a h.p.n h.p.c, .slice h.t.a h.t.n h.t.c, .slice h.s.a h.s.n h.s.c, .slice h.g.a h.g.n h.g.c, .slice h.r.a h.r.n h.r.c, .slice h.o.a h.o.n h.o.c] 30)).alloc (.cells cs 30)).cell? ⟨w.heap.size + 1, i, none⟩ = cs[i]? := fun cs i => by
    have hz : (w.alloc (.cells #[.slice h.i.a h.i.n h.i.c, .slice h.p.a h.p.n h.p.c, .slice h.t.a h.t.n h.t.c, .slice h.s.a h.s.n h.s.c, .slice h.g.a h.g.n h.g.c, .slice h.r.a h.r.n h.r.c, .slice h.o.a h.o.n h.o.c] 30)).heap.size = w.heap.size + 1 := by simp
    rw [← hz]
    exact cell_of_row _ _ _ _ 30 (0, 0) (heap_alloc_new _ _)
  refine { x := (BInv.start h w 30).alloc _, z := by simp, d0 := ?_, d1 := ?_, d2 := ?_, d3 := ?_, d4 := ?_, d5 := ?_, d6 := ?_ }
  all_goals (rw [hn]; rfl)

theorem code_ne {a b : CodeD} (h : a.instrs = b.instrs ∧ a.procs = b.procs ∧ a.thunks = b.thunks ∧ a.switches = b.switches ∧ a.strings = b.strings ∧ a.reals = b.reals ∧ a.owns = b.owns → False) : decide (a = b) = false :=
  decide_eq_false fun e => h (by rw [e]; simp)

set_option maxHeartbeats 8000000 in
theorem Same_any (h g : CodeH) (a b : CodeD) (w : World) (Ha : CodeAt w w.heap.size h a) (Hb : CodeAt w w.heap.size g b) :
    Calls Tryz.prog 16 #[.agg #[.slice h.i.a h.i.n h.i.c, .slice h.p.a h.p.n h.p.c, .slice h.t.a h.t.n h.t.c, .slice h.s.a h.s.n h.s.c, .slice h.g.a h.g.n h.g.c, .slice h.r.a h.r.n h.r.c, .slice h.o.a h.o.n h.o.c], .agg #[.slice g.i.a g.i.n g.i.c, .slice g.p.a g.p.n g.p.c, .slice g.t.a g.t.n g.t.c, .slice g.s.a g.s.n g.s.c, .slice g.g.a g.g.n g.g.c, .slice g.r.a g.r.n g.r.c, .slice g.o.a g.o.n g.o.c]] w fun e w' => e = .returned (.bool (decide (a = b))) ∧ Below w.heap.size w w' := by
  have HA := Lib.hid Ha
  have HB := Lib.hid Hb
  have I0 := Lib.hid (SInv.start h g w)
  clear Ha Hb
  by_cases e0 : a.instrs = b.instrs
  rotate_left
  · have E0 := Lib.hid (decide_eq_false e0)
    have HN := Lib.hid (code_ne (a := a) (b := b) fun ⟨z0, z1, z2, z3, z4, z5, z6⟩ => e0 z0)
    clear e0
    go_enter Tryz.func16, Tryz.ntmps16
    go_wp2_with (first
      | (go_at_call 48; refine (equal_instr _ _ _ _ _ _ a.instrs b.instrs w.heap.size _ (HA.out.i.below I0.out.x.b) (HB.out.i.below I0.out.x.b) HA.out.ni.1 HB.out.ni.1 HA.out.ni.2 I0.out.x.b.size).mono ?_; rintro e w1 ⟨rfl, hb1⟩; have I1 := Lib.hid (I0.out.below hb1); clear hb1; rw [E0.out]))
    go_ret
    exact ⟨ret_bool HN.out.symm, I1.out.x.b⟩
  have E0 := Lib.hid (decide_eq_true e0)
  have F0 := Lib.hid e0
  clear e0
  by_cases e1 : a.procs = b.procs
  rotate_left
  · have E1 := Lib.hid (decide_eq_false e1)
    have HN := Lib.hid (code_ne (a := a) (b := b) fun ⟨z0, z1, z2, z3, z4, z5, z6⟩ => e1 z1)
    clear e1
    go_enter Tryz.func16, Tryz.ntmps16
    go_wp2_with (first
      | (go_at_call 48; refine (equal_instr _ _ _ _ _ _ a.instrs b.instrs w.heap.size _ (HA.out.i.below I0.out.x.b) (HB.out.i.below I0.out.x.b) HA.out.ni.1 HB.out.ni.1 HA.out.ni.2 I0.out.x.b.size).mono ?_; rintro e w1 ⟨rfl, hb1⟩; have I1 := Lib.hid (I0.out.below hb1); clear hb1; have x1 := I1.out.x.c1; have y1 := I1.out.d1; rw [E0.out])
      | (go_at_call 49; refine (equal_proc _ _ _ _ _ _ a.procs b.procs w.heap.size _ (HA.out.p.below I1.out.x.b) (HB.out.p.below I1.out.x.b) HA.out.np.1 HB.out.np.1 HA.out.np.2 I1.out.x.b.size).mono ?_; rintro e w2 ⟨rfl, hb2⟩; have I2 := Lib.hid (I1.out.below hb2); clear hb2; rw [E1.out]))
    go_ret
    exact ⟨ret_bool HN.out.symm, I2.out.x.b⟩
  have E1 := Lib.hid (decide_eq_true e1)
  have F1 := Lib.hid e1
  clear e1
  by_cases e2 : a.thunks = b.thunks
  rotate_left
  · have E2 := Lib.hid (decide_eq_false e2)
    have HN := Lib.hid (code_ne (a := a) (b := b) fun ⟨z0, z1, z2, z3, z4, z5, z6⟩ => e2 z2)
    clear e2
    go_enter Tryz.func16, Tryz.ntmps16
    go_wp2_with (first
      | (go_at_call 48; refine (equal_instr _ _ _ _ _ _ a.instrs b.instrs w.heap.size _ (HA.out.i.below I0.out.x.b) (HB.out.i.below I0.out.x.b) HA.out.ni.1 HB.out.ni.1 HA.out.ni.2 I0.out.x.b.size).mono ?_; rintro e w1 ⟨rfl, hb1⟩; have I1 := Lib.hid (I0.out.below hb1); clear hb1; have x1 := I1.out.x.c1; have y1 := I1.out.d1; rw [E0.out])
      | (go_at_call 49; refine (equal_proc _ _ _ _ _ _ a.procs b.procs w.heap.size _ (HA.out.p.below I1.out.x.b) (HB.out.p.below I1.out.x.b) HA.out.np.1 HB.out.np.1 HA.out.np.2 I1.out.x.b.size).mono ?_; rintro e w2 ⟨rfl, hb2⟩; have I2 := Lib.hid (I1.out.below hb2); clear hb2; have x2 := I2.out.x.c2; have y2 := I2.out.d2; rw [E1.out])
      | (go_at_call 50; refine (equal_thunk _ _ _ _ _ _ a.thunks b.thunks w.heap.size _ (HA.out.t.below I2.out.x.b) (HB.out.t.below I2.out.x.b) HA.out.nt.1 HB.out.nt.1 HA.out.nt.2 I2.out.x.b.size).mono ?_; rintro e w3 ⟨rfl, hb3⟩; have I3 := Lib.hid (I2.out.below hb3); clear hb3; rw [E2.out]))
    go_ret
    exact ⟨ret_bool HN.out.symm, I3.out.x.b⟩
  have E2 := Lib.hid (decide_eq_true e2)
  have F2 := Lib.hid e2
  clear e2
  by_cases e3 : a.switches = b.switches
  rotate_left
  · have E3 := Lib.hid (decide_eq_false e3)
    have HN := Lib.hid (code_ne (a := a) (b := b) fun ⟨z0, z1, z2, z3, z4, z5, z6⟩ => e3 z3)
    clear e3
    go_enter Tryz.func16, Tryz.ntmps16
    go_wp2_with (first
      | (go_at_call 48; refine (equal_instr _ _ _ _ _ _ a.instrs b.instrs w.heap.size _ (HA.out.i.below I0.out.x.b) (HB.out.i.below I0.out.x.b) HA.out.ni.1 HB.out.ni.1 HA.out.ni.2 I0.out.x.b.size).mono ?_; rintro e w1 ⟨rfl, hb1⟩; have I1 := Lib.hid (I0.out.below hb1); clear hb1; have x1 := I1.out.x.c1; have y1 := I1.out.d1; rw [E0.out])
      | (go_at_call 49; refine (equal_proc _ _ _ _ _ _ a.procs b.procs w.heap.size _ (HA.out.p.below I1.out.x.b) (HB.out.p.below I1.out.x.b) HA.out.np.1 HB.out.np.1 HA.out.np.2 I1.out.x.b.size).mono ?_; rintro e w2 ⟨rfl, hb2⟩; have I2 := Lib.hid (I1.out.below hb2); clear hb2; have x2 := I2.out.x.c2; have y2 := I2.out.d2; rw [E1.out])
      | (go_at_call 50; refine (equal_thunk _ _ _ _ _ _ a.thunks b.thunks w.heap.size _ (HA.out.t.below I2.out.x.b) (HB.out.t.below I2.out.x.b) HA.out.nt.1 HB.out.nt.1 HA.out.nt.2 I2.out.x.b.size).mono ?_; rintro e w3 ⟨rfl, hb3⟩; have I3 := Lib.hid (I2.out.below hb3); clear hb3; have x3 := I3.out.x.c3; have y3 := I3.out.d3; rw [E2.out])
      | (go_at_call 51; refine (equalFunc_sw _ _ _ _ _ _ a.switches b.switches w.heap.size _ (SwAt.below HA.out.s I3.out.x.b) (SwAt.below HB.out.s I3.out.x.b) HA.out.ns.1 HB.out.ns.1 HA.out.ns.2 I3.out.x.b.size).mono ?_; rintro e w4 ⟨rfl, hb4⟩; have I4 := Lib.hid (I3.out.below hb4); clear hb4; rw [E3.out]))
    go_ret
    exact ⟨ret_bool HN.out.symm, I4.out.x.b⟩
  have E3 := Lib.hid (decide_eq_true e3)
  have F3 := Lib.hid e3
  clear e3
  by_cases e4 : a.strings = b.strings
  rotate_left
  · have E4 := Lib.hid (decide_eq_false e4)
    have HN := Lib.hid (code_ne (a := a) (b := b) fun ⟨z0, z1, z2, z3, z4, z5, z6⟩ => e4 z4)
    clear e4
    go_enter Tryz.func16, Tryz.ntmps16
    go_wp2_with (first
      | (go_at_call 48; refine (equal_instr _ _ _ _ _ _ a.instrs b.instrs w.heap.size _ (HA.out.i.below I0.out.x.b) (HB.out.i.below I0.out.x.b) HA.out.ni.1 HB.out.ni.1 HA.out.ni.2 I0.out.x.b.size).mono ?_; rintro e w1 ⟨rfl, hb1⟩; have I1 := Lib.hid (I0.out.below hb1); clear hb1; have x1 := I1.out.x.c1; have y1 := I1.out.d1; rw [E0.out])
      | (go_at_call 49; refine (equal_proc _ _ _ _ _ _ a.procs b.procs w.heap.size _ (HA.out.p.below I1.out.x.b) (HB.out.p.below I1.out.x.b) HA.out.np.1 HB.out.np.1 HA.out.np.2 I1.out.x.b.size).mono ?_; rintro e w2 ⟨rfl, hb2⟩; have I2 := Lib.hid (I1.out.below hb2); clear hb2; have x2 := I2.out.x.c2; have y2 := I2.out.d2; rw [E1.out])
      | (go_at_call 50; refine (equal_thunk _ _ _ _ _ _ a.thunks b.thunks w.heap.size _ (HA.out.t.below I2.out.x.b) (HB.out.t.below I2.out.x.b) HA.out.nt.1 HB.out.nt.1 HA.out.nt.2 I2.out.x.b.size).mono ?_; rintro e w3 ⟨rfl, hb3⟩; have I3 := Lib.hid (I2.out.below hb3); clear hb3; have x3 := I3.out.x.c3; have y3 := I3.out.d3; rw [E2.out])
      | (go_at_call 51; refine (equalFunc_sw _ _ _ _ _ _ a.switches b.switches w.heap.size _ (SwAt.below HA.out.s I3.out.x.b) (SwAt.below HB.out.s I3.out.x.b) HA.out.ns.1 HB.out.ns.1 HA.out.ns.2 I3.out.x.b.size).mono ?_; rintro e w4 ⟨rfl, hb4⟩; have I4 := Lib.hid (I3.out.below hb4); clear hb4; have x4 := I4.out.x.c4; have y4 := I4.out.d4; rw [E3.out])
      | (go_at_call 54; refine (equal_strs _ _ _ _ _ _ a.strings b.strings w.heap.size _ (HA.out.g.below I4.out.x.b) (HB.out.g.below I4.out.x.b) HA.out.ng.1 HB.out.ng.1 HA.out.ng.2 I4.out.x.b.size).mono ?_; rintro e w5 ⟨rfl, hb5⟩; have I5 := Lib.hid (I4.out.below hb5); clear hb5; rw [E4.out]))
    go_ret
    exact ⟨ret_bool HN.out.symm, I5.out.x.b⟩
  have E4 := Lib.hid (decide_eq_true e4)
  have F4 := Lib.hid e4
  clear e4
  by_cases e5 : a.reals = b.reals
  rotate_left
  · have E5 := Lib.hid (decide_eq_false e5)
    have HN := Lib.hid (code_ne (a := a) (b := b) fun ⟨z0, z1, z2, z3, z4, z5, z6⟩ => e5 z5)
    clear e5
    go_enter Tryz.func16, Tryz.ntmps16
    go_wp2_with (first
      | (go_at_call 48; refine (equal_instr _ _ _ _ _ _ a.instrs b.instrs w.heap.size _ (HA.out.i.below I0.out.x.b) (HB.out.i.below I0.out.x.b) HA.out.ni.1 HB.out.ni.1 HA.out.ni.2 I0.out.x.b.size).mono ?_; rintro e w1 ⟨rfl, hb1⟩; have I1 := Lib.hid (I0.out.below hb1); clear hb1; have x1 := I1.out.x.c1; have y1 := I1.out.d1; rw [E0.out])
      | (go_at_call 49; refine (equal_proc _ _ _ _ _ _ a.procs b.procs w.heap.size _ (HA.out.p.below I1.out.x.b) (HB.out.p.below I1.out.x.b) HA.out.np.1 HB.out.np.1 HA.out.np.2 I1.out.x.b.size).mono ?_; rintro e w2 ⟨rfl, hb2⟩; have I2 := Lib.hid (I1.out.below hb2); clear hb2; have x2 := I2.out.x.c2; have y2 := I2.out.d2; rw [E1.out])
      | (go_at_call 50; refine (equal_thunk _ _ _ _ _ _ a.thunks b.thunks w.heap.size _ (HA.out.t.below I2.out.x.b) (HB.out.t.below I2.out.x.b) HA.out.nt.1 HB.out.nt.1 HA.out.nt.2 I2.out.x.b.size).mono ?_; rintro e w3 ⟨rfl, hb3⟩; have I3 := Lib.hid (I2.out.below hb3); clear hb3; have x3 := I3.out.x.c3; have y3 := I3.out.d3; rw [E2.out])
      | (go_at_call 51; refine (equalFunc_sw _ _ _ _ _ _ a.switches b.switches w.heap.size _ (SwAt.below HA.out.s I3.out.x.b) (SwAt.below HB.out.s I3.out.x.b) HA.out.ns.1 HB.out.ns.1 HA.out.ns.2 I3.out.x.b.size).mono ?_; rintro e w4 ⟨rfl, hb4⟩; have I4 := Lib.hid (I3.out.below hb4); clear hb4; have x4 := I4.out.x.c4; have y4 := I4.out.d4; rw [E3.out])
      | (go_at_call 54; refine (equal_strs _ _ _ _ _ _ a.strings b.strings w.heap.size _ (HA.out.g.below I4.out.x.b) (HB.out.g.below I4.out.x.b) HA.out.ng.1 HB.out.ng.1 HA.out.ng.2 I4.out.x.b.size).mono ?_; rintro e w5 ⟨rfl, hb5⟩; have I5 := Lib.hid (I4.out.below hb5); clear hb5; have x5 := I5.out.x.c5; have y5 := I5.out.d5; rw [E4.out])
      | (go_at_call 55; refine (equal_real _ _ _ _ _ _ a.reals b.reals w.heap.size _ (HA.out.r.below I5.out.x.b) (HB.out.r.below I5.out.x.b) HA.out.nr.1 HB.out.nr.1 HA.out.nr.2 I5.out.x.b.size).mono ?_; rintro e w6 ⟨rfl, hb6⟩; have I6 := Lib.hid (I5.out.below hb6); clear hb6; rw [E5.out]))
    go_ret
    exact ⟨ret_bool HN.out.symm, I6.out.x.b⟩
  have E5 := Lib.hid (decide_eq_true e5)
  have F5 := Lib.hid e5
  clear e5
  by_cases e6 : a.owns = b.owns
  rotate_left
  · have E6 := Lib.hid (decide_eq_false e6)
    have HN := Lib.hid (code_ne (a := a) (b := b) fun ⟨z0, z1, z2, z3, z4, z5, z6⟩ => e6 z6)
    clear e6
    go_enter Tryz.func16, Tryz.ntmps16
    go_wp2_with (first
      | (go_at_call 48; refine (equal_instr _ _ _ _ _ _ a.instrs b.instrs w.heap.size _ (HA.out.i.below I0.out.x.b) (HB.out.i.below I0.out.x.b) HA.out.ni.1 HB.out.ni.1 HA.out.ni.2 I0.out.x.b.size).mono ?_; rintro e w1 ⟨rfl, hb1⟩; have I1 := Lib.hid (I0.out.below hb1); clear hb1; have x1 := I1.out.x.c1; have y1 := I1.out.d1; rw [E0.out])
      | (go_at_call 49; refine (equal_proc _ _ _ _ _ _ a.procs b.procs w.heap.size _ (HA.out.p.below I1.out.x.b) (HB.out.p.below I1.out.x.b) HA.out.np.1 HB.out.np.1 HA.out.np.2 I1.out.x.b.size).mono ?_; rintro e w2 ⟨rfl, hb2⟩; have I2 := Lib.hid (I1.out.below hb2); clear hb2; have x2 := I2.out.x.c2; have y2 := I2.out.d2; rw [E1.out])
      | (go_at_call 50; refine (equal_thunk _ _ _ _ _ _ a.thunks b.thunks w.heap.size _ (HA.out.t.below I2.out.x.b) (HB.out.t.below I2.out.x.b) HA.out.nt.1 HB.out.nt.1 HA.out.nt.2 I2.out.x.b.size).mono ?_; rintro e w3 ⟨rfl, hb3⟩; have I3 := Lib.hid (I2.out.below hb3); clear hb3; have x3 := I3.out.x.c3; have y3 := I3.out.d3; rw [E2.out])
      | (go_at_call 51; refine (equalFunc_sw _ _ _ _ _ _ a.switches b.switches w.heap.size _ (SwAt.below HA.out.s I3.out.x.b) (SwAt.below HB.out.s I3.out.x.b) HA.out.ns.1 HB.out.ns.1 HA.out.ns.2 I3.out.x.b.size).mono ?_; rintro e w4 ⟨rfl, hb4⟩; have I4 := Lib.hid (I3.out.below hb4); clear hb4; have x4 := I4.out.x.c4; have y4 := I4.out.d4; rw [E3.out])
      | (go_at_call 54; refine (equal_strs _ _ _ _ _ _ a.strings b.strings w.heap.size _ (HA.out.g.below I4.out.x.b) (HB.out.g.below I4.out.x.b) HA.out.ng.1 HB.out.ng.1 HA.out.ng.2 I4.out.x.b.size).mono ?_; rintro e w5 ⟨rfl, hb5⟩; have I5 := Lib.hid (I4.out.below hb5); clear hb5; have x5 := I5.out.x.c5; have y5 := I5.out.d5; rw [E4.out])
      | (go_at_call 55; refine (equal_real _ _ _ _ _ _ a.reals b.reals w.heap.size _ (HA.out.r.below I5.out.x.b) (HB.out.r.below I5.out.x.b) HA.out.nr.1 HB.out.nr.1 HA.out.nr.2 I5.out.x.b.size).mono ?_; rintro e w6 ⟨rfl, hb6⟩; have I6 := Lib.hid (I5.out.below hb6); clear hb6; have x6 := I6.out.x.c6; have y6 := I6.out.d6; rw [E5.out])
      | (go_at_call 53; refine (equal_ints _ _ _ _ _ _ a.owns b.owns w.heap.size _ (HA.out.o.below I6.out.x.b) (HB.out.o.below I6.out.x.b) HA.out.no.1 HB.out.no.1 HA.out.no.2 I6.out.x.b.size).mono ?_; rintro e w7 ⟨rfl, hb7⟩; have I7 := Lib.hid (I6.out.below hb7); clear hb7; rw [E6.out]))
    go_ret
    exact ⟨ret_bool HN.out.symm, I7.out.x.b⟩
  have E6 := Lib.hid (decide_eq_true e6)
  have F6 := Lib.hid e6
  clear e6
  have HN := Lib.hid (show decide (a = b) = true from decide_eq_true (by
    obtain ⟨a0, a1, a2, a3, a4, a5, a6⟩ := a
    obtain ⟨b0, b1, b2, b3, b4, b5, b6⟩ := b
    rw [CodeD.mk.injEq]
    exact ⟨F0.out, F1.out, F2.out, F3.out, F4.out, F5.out, F6.out⟩))
  go_enter Tryz.func16, Tryz.ntmps16
  go_wp2_with (first
    | (go_at_call 48; refine (equal_instr _ _ _ _ _ _ a.instrs b.instrs w.heap.size _ (HA.out.i.below I0.out.x.b) (HB.out.i.below I0.out.x.b) HA.out.ni.1 HB.out.ni.1 HA.out.ni.2 I0.out.x.b.size).mono ?_; rintro e w1 ⟨rfl, hb1⟩; have I1 := Lib.hid (I0.out.below hb1); clear hb1; have x1 := I1.out.x.c1; have y1 := I1.out.d1; rw [E0.out])
    | (go_at_call 49; refine (equal_proc _ _ _ _ _ _ a.procs b.procs w.heap.size _ (HA.out.p.below I1.out.x.b) (HB.out.p.below I1.out.x.b) HA.out.np.1 HB.out.np.1 HA.out.np.2 I1.out.x.b.size).mono ?_; rintro e w2 ⟨rfl, hb2⟩; have I2 := Lib.hid (I1.out.below hb2); clear hb2; have x2 := I2.out.x.c2; have y2 := I2.out.d2; rw [E1.out])
    | (go_at_call 50; refine (equal_thunk _ _ _ _ _ _ a.thunks b.thunks w.heap.size _ (HA.out.t.below I2.out.x.b) (HB.out.t.below I2.out.x.b) HA.out.nt.1 HB.out.nt.1 HA.out.nt.2 I2.out.x.b.size).mono ?_; rintro e w3 ⟨rfl, hb3⟩; have I3 := Lib.hid (I2.out.below hb3); clear hb3; have x3 := I3.out.x.c3; have y3 := I3.out.d3; rw [E2.out])
    | (go_at_call 51; refine (equalFunc_sw _ _ _ _ _ _ a.switches b.switches w.heap.size _ (SwAt.below HA.out.s I3.out.x.b) (SwAt.below HB.out.s I3.out.x.b) HA.out.ns.1 HB.out.ns.1 HA.out.ns.2 I3.out.x.b.size).mono ?_; rintro e w4 ⟨rfl, hb4⟩; have I4 := Lib.hid (I3.out.below hb4); clear hb4; have x4 := I4.out.x.c4; have y4 := I4.out.d4; rw [E3.out])
    | (go_at_call 54; refine (equal_strs _ _ _ _ _ _ a.strings b.strings w.heap.size _ (HA.out.g.below I4.out.x.b) (HB.out.g.below I4.out.x.b) HA.out.ng.1 HB.out.ng.1 HA.out.ng.2 I4.out.x.b.size).mono ?_; rintro e w5 ⟨rfl, hb5⟩; have I5 := Lib.hid (I4.out.below hb5); clear hb5; have x5 := I5.out.x.c5; have y5 := I5.out.d5; rw [E4.out])
    | (go_at_call 55; refine (equal_real _ _ _ _ _ _ a.reals b.reals w.heap.size _ (HA.out.r.below I5.out.x.b) (HB.out.r.below I5.out.x.b) HA.out.nr.1 HB.out.nr.1 HA.out.nr.2 I5.out.x.b.size).mono ?_; rintro e w6 ⟨rfl, hb6⟩; have I6 := Lib.hid (I5.out.below hb6); clear hb6; have x6 := I6.out.x.c6; have y6 := I6.out.d6; rw [E5.out])
    | (go_at_call 53; refine (equal_ints _ _ _ _ _ _ a.owns b.owns w.heap.size _ (HA.out.o.below I6.out.x.b) (HB.out.o.below I6.out.x.b) HA.out.no.1 HB.out.no.1 HA.out.no.2 I6.out.x.b.size).mono ?_; rintro e w7 ⟨rfl, hb7⟩; have I7 := Lib.hid (I6.out.below hb7); clear hb7; rw [E6.out]))
  go_ret
  exact ⟨ret_bool HN.out.symm, I7.out.x.b⟩
end Go.Proofs.YtmfnholhhakgaaaGreatDoor
end
