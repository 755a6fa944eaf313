/- small: the contract: whether a code is small. -/
import Derived.Test.YtmfnholhhakgaaaGreatDoorMhi
namespace Go.Proofs.YtmfnholhhakgaaaGreatDoor
open Go Go.Proofs Go.RowKit Go.Sort
set_option maxRecDepth 100000
/-- How many elements the first k switches have. -/
def swSum (c : CodeD) (k : Nat) : Nat := ((c.switches.take k).map List.length).sum
theorem swSum_succ {c : CodeD} {k : Nat} {l : List Int} (h : c.switches[k]? = some l) : swSum c (k + 1) = swSum c k + l.length := by
  unfold swSum
  rw [List.take_add_one, h]
  simp
def longB (s : ByteArray) : Bool := decide (200 < (s.size : Int))
def smallB (c : CodeD) : Bool := !((c.strings.take 50).any longB) && decide ((swSum c 50 : Int) ≤ 3000) && decide ((c.instrs.length : Int) ≤ 300) && decide ((c.procs.length : Int) ≤ 40) && decide ((c.thunks.length : Int) ≤ 40) && decide ((c.switches.length : Int) ≤ 40) && decide ((c.strings.length : Int) ≤ 40) && decide ((c.reals.length : Int) ≤ 40) && decide ((c.owns.length : Int) ≤ 40)
theorem smallLong {c : CodeD} {k : Nat} {s : ByteArray} (hs : c.strings[k]? = some s) (hk : k < 50) (h : longB s = true) : smallB c = false := by
  have : (c.strings.take 50).any longB = true := List.any_eq_true.2 ⟨s, List.mem_of_getElem? (i := k) (by rw [List.getElem?_take, if_pos hk]; exact hs), h⟩
  unfold smallB
  rw [this]
  simp
theorem noLong {c : CodeD} {k : Nat} (hk : ¬ (k < c.strings.length ∧ k < 50)) (h : ∀ (j : Nat) (y : ByteArray), j < k → c.strings[j]? = some y → longB y = false) : (c.strings.take 50).any longB = false := by
  rw [List.any_eq_false]
  intro x hx
  obtain ⟨j, hj⟩ := List.mem_iff_getElem?.1 hx
  rw [List.getElem?_take] at hj
  split at hj
  · rename_i hj5
    have hl := (List.getElem?_eq_some_iff.1 hj).1
    rw [h j x (by omega) hj]
    simp
  · cases hj
theorem swSum_end {c : CodeD} {k : Nat} (hk : ¬ (k < c.switches.length ∧ k < 50)) (h50 : k ≤ 50) : swSum c k = swSum c 50 := by
  unfold swSum
  by_cases h : k < c.switches.length
  · have : k = 50 := by omega
    rw [this]
  · rw [List.take_of_length_le (by omega), List.take_of_length_le (by omega)]
set_option maxHeartbeats 4000000 in
theorem small_any (h : CodeH) (c : CodeD) (w : World) (H : CodeAt w w.heap.size h c) : Calls Tryz.prog 12 #[.agg #[.slice h.i.a h.i.n h.i.c, .slice h.p.a h.p.n h.p.c, .slice h.t.a h.t.n h.t.c, .slice h.s.a h.s.n h.s.c, .slice h.g.a h.g.n h.g.c, .slice h.r.a h.r.n h.r.c, .slice h.o.a h.o.n h.o.c]] w
    fun e w' => e = .returned (.bool (smallB c)) ∧ Below w.heap.size w w' := by
  have HC := Lib.hid H
  have B0 := Lib.hid (BInv.start h w 30)
  have hS : h.s.n ≤ 140737488351232 := H.ns.2
  have hG : h.g.n ≤ 140737488351232 := H.ng.2
  clear H
  go_enter Tryz.func12, Tryz.ntmps12
  go_wp2
  go_loopw [3, 4] (fun n i wr => ∃ k : Nat, k ≤ h.s.n ∧ k ≤ 50 ∧ i = .int .i64 k ∧ n = .int .i64 (swSum c k) ∧ swSum c k ≤ k * 140737488351232 ∧ BInv w.heap.size h w wr) (fun _ i _ => 50 - (intOf i).toNat)
  case atStart => exact ⟨0, by omega, by omega, rfl, rfl, by simp [swSum], B0.out⟩
  case round =>
    obtain ⟨k, hk, hk5, rfl, rfl, hsum, hB⟩ := hrel
    have BB := Lib.hid hB
    clear hB B0
    have y3 := BB.out.c3
    by_cases hlt : k < h.s.n ∧ k < 50
    · obtain ⟨hlt1, hlt2⟩ := hlt
      obtain ⟨hs, hr, hsl, hsx⟩ := HC.out.s
      obtain ⟨ad, x, had, hx, hab, c0⟩ := Reads.elem1 (f := SH.v) (hr.below BB.out.b) (HC.out.ns.1.trans hsl.symm) hlt1
      obtain ⟨l, hl⟩ : ∃ l, c.switches[k]? = some l := ⟨_, List.getElem?_eq_getElem (by have := HC.out.ns.1; omega)⟩
      obtain ⟨hRl, hSl⟩ := hsx k x l hx hl
      have hln : x.n = l.length := by have := hRl.1; simp [intCells] at this; omega
      have HSU : Hid (swSum c (k + 1) = swSum c k + x.n) := Lib.hid (by rw [swSum_succ hl, hln])
      unfold Small at hSl
      change wr.cell? (ad.add k) = some (.slice x.a x.n x.c) at c0
      rw [had] at y3
      have hb : swSum c k + x.n ≤ (k + 1) * 140737488351232 := by omega
      have hb2 : swSum c k + x.n ≤ 7036874417561600 := by omega
      have hi1 : (k : Int) < (h.s.n : Int) := by omega
      have hi0 : (0 : Int) ≤ (k : Int) := by omega
      clear hx hab had hr hsl hsx hl hRl hln
      go_wp2
      go_roundw
      case rel => exact ⟨k + 1, by omega, by omega, by go_num, by rw [HSU.out]; go_num, by rw [HSU.out]; omega, BB.out⟩
      case measure => simp [intOf]; omega
    · have HSE := Lib.hid (swSum_end (c := c) (k := k) (by rw [← HC.out.ns.1]; exact hlt) hk5)
      have hd : ¬ k < h.s.n ∨ (k < h.s.n ∧ ¬ k < 50) := by omega
      clear hlt
      obtain ⟨S, hS⟩ : ∃ S, swSum c k = S := ⟨_, rfl⟩
      rw [hS] at HSE hsum ⊢
      have hs2 : S ≤ 7036874417561600 := by omega
      clear hS
      rcases hd with h1 | ⟨h1, h2⟩
      all_goals
        go_wp2
        clear y3
        go_loopw [5] (fun i wr => ∃ m : Nat, m ≤ h.g.n ∧ m ≤ 50 ∧ i = .int .i64 m ∧ BInv w.heap.size h w wr ∧ ∀ (j : Nat) (y : ByteArray), j < m → c.strings[j]? = some y → longB y = false) (fun i _ => 50 - (intOf i).toNat)
        case atStart => exact ⟨0, by omega, by omega, rfl, BB.out, fun j y hj => by omega⟩
        case round =>
          obtain ⟨m, hm, hm5, rfl, hB, hno⟩ := hrel
          have B2 := Lib.hid hB
          have HNO := Lib.hid hno
          clear hB BB hno
          have y4 := B2.out.c4
          by_cases hlt : m < h.g.n ∧ m < 50
          · obtain ⟨hlt1, hlt2⟩ := hlt
            obtain ⟨ad, x, had, hx, hab, c0⟩ := Reads.elem1 (f := Value.string) (HC.out.g.below B2.out.b) HC.out.ng.1 hlt1
            have HX := Lib.hid hx
            rw [had] at y4
            have hi1 : (m : Int) < (h.g.n : Int) := by omega
            have hi0 : (0 : Int) ≤ (m : Int) := by omega
            clear hx hab had
            by_cases hx2 : 200 < (x.size : Int)
            · have HF := Lib.hid (smallLong HX.out hlt2 (decide_eq_true hx2))
              go_wp2
              go_ret
              exact ⟨ret_bool HF.out.symm, B2.out.b⟩
            · have HF := Lib.hid (decide_eq_false hx2)
              go_wp2
              go_roundw
              case rel => exact ⟨m + 1, by omega, by omega, by go_num, B2.out, fun j y hj hy => by
                rcases Nat.lt_succ_iff_lt_or_eq.1 hj with h' | rfl
                · exact HNO.out j y h' hy
                · rw [HX.out] at hy; cases hy; exact HF.out⟩
              case measure => simp [intOf]; omega
          · have HNL := Lib.hid (noLong (c := c) (k := m) (by rw [← HC.out.ng.1]; exact hlt) HNO.out)
            have y0 := B2.out.c0; have y1 := B2.out.c1; have y2 := B2.out.c2; have y3 := B2.out.c3; have y5 := B2.out.c5; have y6 := B2.out.c6
            have HE : Hid (smallB c = (decide ((S : Int) ≤ 3000) && decide ((h.i.n : Int) ≤ 300) && decide ((h.p.n : Int) ≤ 40) && decide ((h.t.n : Int) ≤ 40) && decide ((h.s.n : Int) ≤ 40) && decide ((h.g.n : Int) ≤ 40) && decide ((h.r.n : Int) ≤ 40) && decide ((h.o.n : Int) ≤ 40))) := Lib.hid (by
              unfold smallB
              rw [HNL.out, ← HSE.out, HC.out.ni.1, HC.out.np.1, HC.out.nt.1, HC.out.ns.1, HC.out.ng.1, HC.out.nr.1, HC.out.no.1]
              rfl)
            have hd : ¬ m < h.g.n ∨ (m < h.g.n ∧ ¬ m < 50) := by omega
            clear hlt
            rcases hd with h3 | ⟨h3, h4⟩
            all_goals
              go_wp2
              all_goals go_ret
              all_goals exact ⟨ret_bool (by rw [HE.out, Bool.eq_iff_iff]; simp; omega), B2.out.b⟩
end Go.Proofs.YtmfnholhhakgaaaGreatDoor
