/- equal and moved of the statements: contracts; the places behind a place of the second code of a joined one. -/
import Derived.Test.YtmfnholhhakgaaaGreatDoorWjn
import Derived.Test.YtmfnholhhakgaaaGreatDoorRch
namespace Go.Proofs.YtmfnholhhakgaaaGreatDoor
open Go Go.Proofs Go.RowKit Go.Sort
set_option maxRecDepth 100000
theorem next_shift {h : CodeH} {b : CodeD} {k : Nat} {x : InstrD} (hk : k < b.instrs.length) : nextL (shI h x) (h.i.n + k) (h.i.n + b.instrs.length) = (nextL x k b.instrs.length).map (· + (h.i.n : Int)) := by
  have ho : (shI h x).op = x.op := rfl
  have ha : (x.op = 47 ∨ x.op = 48) → (shI h x).a = x.a + (h.i.n : Int) := by
    rintro (e | e)
    · show x.a + (shiftN h (opK0 x.op) : Nat) = _
      rw [e]; rfl
    · show x.a + (shiftN h (opK0 x.op) : Nat) = _
      rw [e]; rfl
  unfold nextL
  rw [ho]
  cases h1 : stopB x.op with
  | true => rfl
  | false =>
    simp only [Bool.false_eq_true, if_false]
    cases h2 : x.op == 47 with
    | true =>
      simp only [if_true, List.map_cons, List.map_nil]
      rw [ha (.inl (by simpa using h2))]
    | false =>
      simp only [Bool.false_eq_true, if_false]
      refine asc_ext (cs_lt _) ?_ fun z => ?_
      · rw [List.pairwise_map]
        exact (cs_lt _).imp fun h => by omega
      · rw [mem_cs, List.mem_map]
        simp only [mem_cs]
        unfold nextRaw
        simp only [List.mem_append]
        constructor
        · rintro (hz | hz)
          · split at hz
            · rename_i h48
              rw [ha (.inr (by simpa using h48))] at hz
              exact ⟨x.a, .inl (by rw [if_pos h48]; simp), by simp at hz; omega⟩
            · simp at hz
          · split at hz
            · refine ⟨(k : Int) + 1, .inr (by rw [if_pos (by omega)]; simp), ?_⟩
              simp at hz
              omega
            · simp at hz
        · rintro ⟨u, hu | hu, rfl⟩
          · split at hu
            · rename_i h48
              left
              rw [if_pos h48, ha (.inr (by simpa using h48))]
              simp at hu ⊢
              omega
            · simp at hu
          · split at hu
            · right
              rw [if_pos (by omega)]
              simp at hu ⊢
              omega
            · simp at hu
set_option maxHeartbeats 2000000 in
theorem equal_any (A1 A2 : Option Addr) (n c m d : Nat) (xs ys : List Int) (w : World) (h1 : Reads w w.heap.size 1 A1 n (intCells xs)) (h2 : Reads w w.heap.size 1 A2 m (intCells ys)) (hn : n ≤ 140737488351232) :
    Calls Tryz.prog 39 #[.slice A1 n c, .slice A2 m d] w fun e w' => e = .returned (.bool (xs == ys)) ∧ Below w.heap.size w w' := by
  have R1 := Lib.hid h1
  have R2 := Lib.hid h2
  have N1 : Hid (n = xs.length) := Lib.hid (by have := h1.1; simp [intCells] at this; omega)
  have N2 : Hid (m = ys.length) := Lib.hid (by have := h2.1; simp [intCells] at this; omega)
  clear h1 h2
  cases hnm : ((n : Int) != (m : Int)) with
  | true =>
    have HH : Hid ((xs == ys) = false) := Lib.hid (by
      have : ¬ xs = ys := ne_of_len N1.out N2.out hnm
      simpa using this)
    go_enter Tryz.func39, Tryz.ntmps39
    go_wp2
    go_ret
    exact ⟨ret_bool HH.out.symm, Below.refl _ _⟩
  | false =>
    have NM := Lib.hid (len_of_eq hnm)
    go_enter Tryz.func39, Tryz.ntmps39
    go_wp2
    go_loopw [5] (fun i wr => ∃ k : Nat, k ≤ n ∧ i = .int .i64 k ∧ Below w.heap.size w wr ∧ ∀ (j : Nat), j < k → xs[j]? = ys[j]?) (fun i _ => n - (intOf i).toNat)
    case atStart => exact ⟨0, by omega, rfl, Below.refl _ _, fun j hj => by omega⟩
    case round =>
      obtain ⟨k, hk, rfl, hb, hall⟩ := hrel
      have HB := Lib.hid hb
      have HA := Lib.hid hall
      clear hb hall
      by_cases hlt : k < n
      · obtain ⟨a1, x, rfl, hx, _, c1⟩ := Reads.elem1 (f := Value.int .i64) (R1.out.below HB.out) N1.out hlt
        obtain ⟨a2, y, rfl, hy, _, d1⟩ := Reads.elem1 (f := Value.int .i64) (R2.out.below HB.out) N2.out (k := k) (by have := NM.out; omega)
        have hlt2 : k < m := by have := NM.out; omega
        have hi1 : (k : Int) < (n : Int) := by omega
        have hi2 : (k : Int) < (m : Int) := by omega
        have hi0 : (0 : Int) ≤ (k : Int) := by omega
        have HX := Lib.hid hx
        have HY := Lib.hid hy
        clear hx hy
        by_cases hne : x = y
        · have hq : (x != y) = false := by simp [hne]
          have HNE := Lib.hid hne
          clear hne
          go_wp2
          go_quiet (fail)
          go_wp2
          go_roundw
          case rel => exact ⟨k + 1, by omega, by go_num, below_drewN HB.out _, fun j hj => by
            rcases Nat.lt_succ_iff_lt_or_eq.1 hj with h | rfl
            · exact HA.out j h
            · rw [HX.out, HY.out, HNE.out]⟩
          case measure => simp [intOf]; omega
        · have hq : (x != y) = true := by simpa using hne
          have HH : Hid ((xs == ys) = false) := Lib.hid (by
            have : ¬ xs = ys := ne_of_at HX.out HY.out hne
            simpa using this)
          clear hne
          go_wp2
          go_quiet (fail)
          go_wp2
          go_ret
          exact ⟨ret_bool HH.out.symm, below_drewN HB.out _⟩
      · have HH : Hid ((xs == ys) = true) := Lib.hid (by
          have : xs = ys := eq_of_all N1.out N2.out NM.out hlt HA.out
          rw [this]; exact beq_self_eq_true _)
        go_wp2
        go_ret
        exact ⟨ret_bool HH.out.symm, HB.out⟩
set_option maxHeartbeats 2000000 in
theorem moved_any (A : Option Addr) (n cp : Nat) (xs : List Int) (d : Int) (w : World) (hr : Reads w w.heap.size 1 A n (intCells xs)) (hs : n ≤ 1000000) (hd : 0 ≤ d ∧ d ≤ 1000000) (hx : ∀ z ∈ xs, 0 ≤ z ∧ z ≤ 1000000) : Calls Tryz.prog 40 #[.slice A n cp, .int .i64 d] w (RetInts w (xs.map (· + d))) := by
  have HR := Lib.hid hr
  have HN : Hid (n = xs.length) := Lib.hid (by have := hr.1; simp [intCells] at this; omega)
  have HXX := Lib.hid hx
  obtain ⟨hd0, hd1⟩ := hd
  clear hr hx
  go_enter Tryz.func40, Tryz.ntmps40
  go_wp2
  go_loopw [5, 6] (fun v i wr => ∃ k : Nat, k ≤ n ∧ i = .int .i64 k ∧ wr.ownsRow w.heap.size 3 1 v k ((xs.take k).map fun z => Value.int .i64 (z + d)) ∧ Below w.heap.size w wr) (fun _ i _ => n - (intOf i).toNat)
  case atStart => exact ⟨0, by omega, rfl, World.ownsRow_nil _ _ _ _, Below.refl _ _⟩
  case round =>
    obtain ⟨k, hk, rfl, ho, hb⟩ := hrel
    have OO := Lib.hid ho
    have BB := Lib.hid hb
    clear ho hb
    by_cases hlt : k < n
    · obtain ⟨ad, z, rfl, hz, hab, c0⟩ := Reads.elem1 (f := Value.int .i64) (HR.out.below BB.out) HN.out hlt
      obtain ⟨hz0, hz1⟩ := HXX.out z (List.mem_of_getElem? hz)
      have HS : Hid ((xs.take (k + 1)).map (fun z => Value.int .i64 (z + d)) = (xs.take k).map (fun z => Value.int .i64 (z + d)) ++ [.int .i64 (z + d)]) := Lib.hid (by rw [List.take_add_one, hz]; simp)
      have hi1 : (k : Int) < (n : Int) := by omega
      have hi0 : (0 : Int) ≤ (k : Int) := by omega
      clear hz hab
      go_wp2_with (first
        | (at_builtin; refine wpList_push elemInts rfl _ _ rfl w.heap.size _ _ _ rfl OO.out #[.int .i64 (z + d)] _ rfl (by first | rfl | simp) rfl (fun u hu => by rcases List.mem_singleton.1 hu with rfl; rfl) (by omega) BB.out.size ?_; intro v1 w1 ho1 hb1; have O1 := Lib.hid ho1; have B1 := Lib.hid (BB.out.trans hb1); clear ho1 hb1))
      go_roundw
      case rel => exact ⟨k + 1, by omega, by go_num, by rw [HS.out]; exact O1.out, B1.out⟩
      case measure => simp [intOf]; omega
    · obtain rfl : k = n := by omega
      go_wp2
      go_ret
      refine ⟨_, rfl, ?_, BB.out⟩
      have h1 := OO.out
      rw [List.take_of_length_le (by have := HN.out; omega)] at h1
      rw [List.length_map, List.map_map, ← HN.out]
      exact h1
end Go.Proofs.YtmfnholhhakgaaaGreatDoor
