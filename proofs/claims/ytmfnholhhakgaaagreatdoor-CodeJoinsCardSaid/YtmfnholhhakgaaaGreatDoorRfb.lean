/- The reference of chapter 14: procedures, switches, strings and instructions of a code: contracts. -/
import Derived.Test.YtmfnholhhakgaaaGreatDoorRfa
import Derived.StillTailTactics
namespace Go.Proofs.YtmfnholhhakgaaaGreatDoor
open Go Go.Proofs Go.RowKit Go.Sort
set_option maxRecDepth 100000
set_option maxHeartbeats 2000000

theorem procBadT {I : Nat} {x : ProcD} (h : ¬ wiB x.type 0 3 = true) : procOk I x = false := by
  unfold procOk tyB
  unfold wiB at h
  have h1 : (decide (x.type = 0) || (decide (x.type = 1) || decide (x.type = 2) || decide (x.type = 3))) = false := by
    rw [Bool.eq_false_iff]; simp at h ⊢; omega
  rw [h1]; simp
theorem procBadS {I : Nat} {x : ProcD} (h : ¬ wiB x.slots (leastOf x) 2000 = true) : procOk I x = false := by unfold procOk; simp [h]
theorem procAll {I : Nat} {x : ProcD} (h1 : wiB x.entry 0 ((I : Int) - 1) = true) (h2 : wiB x.params 0 8 = true) (h3 : wiB x.type 0 3 = true) (h4 : wiB x.slots (leastOf x) 2000 = true) : procOk I x = true := by
  unfold procOk tyB
  have h5 : (decide (x.type = 0) || (decide (x.type = 1) || decide (x.type = 2) || decide (x.type = 3))) = true := by
    unfold wiB at h3; simp at h3 ⊢; omega
  rw [h5, h1, h2, h4]; rfl
theorem rproc_any (h : CodeH) (x : ProcD) (w : World) (hI : h.i.n ≤ 140737488351232) : Calls Tryz.prog 102 #[.agg #[.slice h.i.a h.i.n h.i.c, .slice h.p.a h.p.n h.p.c, .slice h.t.a h.t.n h.t.c, .slice h.s.a h.s.n h.s.c, .slice h.g.a h.g.n h.g.c, .slice h.r.a h.r.n h.r.c, .slice h.o.a h.o.n h.o.c], .agg #[.int .i64 x.entry, .int .i64 x.params, .int .i64 x.type, .int .i64 x.slots, .bool x.std]] w
    fun e w' => e = .returned (.bool (procOk h.i.n x)) ∧ Below w.heap.size w w' := by
  have hb : ∀ o1 o2, Below w.heap.size w ((w.alloc o1).alloc o2) := fun o1 o2 => ((Below.refl w.heap.size w).alloc (Nat.le_refl _) o1).alloc (by simp) o2
  obtain ⟨lst, hlst⟩ : ∃ lst, leastOf x = lst := ⟨_, rfl⟩
  have HLS := Lib.hid hlst
  have hd : ((x.type != 0) = true ∧ wrap64 (x.params + 1) = lst) ∨ ((x.type != 0) = false ∧ x.params = lst) := by
    unfold leastOf at hlst
    by_cases h0 : x.type = 0
    · rw [if_pos h0] at hlst; exact .inr ⟨by simp [h0], hlst⟩
    · rw [if_neg h0] at hlst; exact .inl ⟨by simp [h0], hlst⟩
  clear hlst
  rcases hd with ⟨h0, hl⟩ | ⟨h0, hl⟩
  all_goals
    have HP := Lib.hid hl
    clear hl
    cases h1 : wiB x.entry 0 ((h.i.n : Int) - 1) with
    | false =>
      have HB := Lib.hid (procBad1 (I := h.i.n) (x := x) (by rw [h1]; simp))
      go_enter Tryz.func102, Tryz.ntmps102
      go_wp2_with (go_at_call 107; refine (in_any _ _ _ _).mono ?_; rintro e w' ⟨rfl, rfl⟩)
      go_ret
      exact ⟨ret_bool HB.out.symm, hb _ _⟩
    | true =>
      cases h2 : wiB x.params 0 8 with
      | false =>
        have HB := Lib.hid (procBad2 (I := h.i.n) (x := x) (by rw [h2]; simp))
        go_enter Tryz.func102, Tryz.ntmps102
        go_wp2_with (go_at_call 107; refine (in_any _ _ _ _).mono ?_; rintro e w' ⟨rfl, rfl⟩)
        go_ret
        exact ⟨ret_bool HB.out.symm, hb _ _⟩
      | true =>
        cases h3 : wiB x.type 0 3 with
        | false =>
          have HB := Lib.hid (procBadT (I := h.i.n) (x := x) (by rw [h3]; simp))
          go_enter Tryz.func102, Tryz.ntmps102
          go_wp2_with (go_at_call 107; refine (in_any _ _ _ _).mono ?_; rintro e w' ⟨rfl, rfl⟩)
          go_ret
          exact ⟨ret_bool HB.out.symm, hb _ _⟩
        | true =>
          have H1 := Lib.hid h1
          have H2 := Lib.hid h2
          have H3 := Lib.hid h3
          go_enter Tryz.func102, Tryz.ntmps102
          go_wp2_with (go_at_call 107; refine (in_any _ _ _ _).mono ?_; rintro e w' ⟨rfl, rfl⟩)
          go_ret
          refine ⟨ret_bool ?_, hb _ _⟩
          try rw [HP.out]
          have hf : procOk h.i.n x = wiB x.slots lst 2000 := by
            cases h4 : wiB x.slots lst 2000 with
            | false => exact procBadS (by rw [HLS.out, h4]; simp)
            | true => exact procAll H1.out H2.out H3.out (by rw [HLS.out]; exact h4)
          rw [hf]
theorem strInts_get (s : ByteArray) (k : Nat) (h : k < s.size) : (strInts s)[k]? = some (s[k].toNat : Int) := by
  unfold strInts
  rw [List.getElem?_map]
  have : s.data.toList[k]? = some s[k] := by
    rw [List.getElem?_eq_getElem (by simpa using h)]; rfl
  rw [this]; rfl
theorem strBad_at {s : ByteArray} {k : Nat} {y : Int} (hy : (strInts s)[k]? = some y) (h : badByte y = true) : strOk s = false :=
  strBadB (List.any_eq_true.2 ⟨y, List.mem_of_getElem? hy, h⟩)
theorem str_len (s : ByteArray) : (strInts s).length = s.size := by simp [strInts]
theorem strEnd {s : ByteArray} {k : Nat} (hk : ¬ k < s.size) (hno : ∀ (j : Nat) (y : Int), j < k → (strInts s)[j]? = some y → badByte y = false) : strOk s = decide ((s.size : Int) ≤ 80) := by
  have h : ((strInts s).any badByte) = false := by
    rw [List.any_eq_false]
    intro x hx
    obtain ⟨j, hj⟩ := List.mem_iff_getElem?.1 hx
    have hlt := (List.getElem?_eq_some_iff.1 hj).1
    rw [str_len] at hlt
    rw [hno j x (by omega) hj]
    simp
  unfold strOk
  rw [h]
  simp
  omega
theorem text_any (s : ByteArray) (w : World) (hs : s.size ≤ 140737488351232) : Calls Tryz.prog 105 #[.string s] w fun e w' => e = .returned (.bool (strOk s)) ∧ w' = w := by
  go_enter Tryz.func105, Tryz.ntmps105
  go_wp2
  go_loop [3] (fun i => ∃ k : Nat, k ≤ s.size ∧ i = .int .i64 k ∧ ∀ (j : Nat) (y : Int), j < k → (strInts s)[j]? = some y → badByte y = false) (fun i => s.size - (intOf i).toNat)
  case atStart => exact ⟨0, by omega, rfl, fun j y hj => by omega⟩
  case round =>
    obtain ⟨k, hk, rfl, hno⟩ := hrel
    have HNO := Lib.hid hno
    clear hno
    by_cases hlt : k < s.size
    · have HG := Lib.hid (strInts_get s k hlt)
      cases hbb : badByte (s[k].toNat : Int) with
      | true =>
        have HB := Lib.hid (strBad_at HG.out hbb)
        have hb3 : (s[k].toNat : Int) < 32 ∨ 126 < (s[k].toNat : Int) ∨ (s[k].toNat : Int) = 34 := by unfold badByte at hbb; simpa [or_assoc] using hbb
        clear hbb
        go_wp2
        all_goals first
          | (go_ret
             exact ⟨ret_bool HB.out.symm, rfl⟩)
          | (exfalso; omega)
          | (exfalso; simp_all; omega)
      | false =>
        have HBF := Lib.hid hbb
        have hb3 : ¬ (s[k].toNat : Int) < 32 ∧ ¬ 126 < (s[k].toNat : Int) ∧ ¬ (s[k].toNat : Int) = 34 := by unfold badByte at hbb; simp at hbb; omega
        obtain ⟨hb0, hb1, hb2⟩ := hb3
        have hb4 : ((s[k].toNat : Int) == 34) = false := by simpa using hb2
        clear hbb hb2
        go_wp2
        go_round
        case rel => exact ⟨k + 1, by omega, by go_num, fun j y hj hy => by
          rcases Nat.lt_succ_iff_lt_or_eq.1 hj with h | rfl
          · exact HNO.out j y h hy
          · rw [HG.out] at hy; cases hy; exact HBF.out⟩
        case measure => simp [intOf]; omega
    · have HE := Lib.hid (strEnd hlt HNO.out)
      go_wp2
      go_ret
      exact ⟨ret_bool HE.out.symm, rfl⟩
theorem in_any' (n lo hi : Int) (w : World) : Calls Tryz.prog 107 #[.int .i64 n, .int .i64 lo, .int .i64 hi] w fun e w' => e = .returned (.bool (wiB n lo hi)) ∧ w' = w :=
  (in_any n lo hi w).mono fun _ _ h => ⟨h.1, h.2.symm⟩
theorem switchBad_at {I : Nat} {l : List Int} {k : Nat} {y : Int} (hy : l[k]? = some y) (h : wiB y 0 ((I : Int) - 1) = false) : switchOk I l = false :=
  switchBadA (List.any_eq_true.2 ⟨y, List.mem_of_getElem? hy, by rw [h]; rfl⟩)
theorem switchEnd {I n k : Nat} {l : List Int} (hn : n = l.length) (hk : ¬ k < n) (hno : ∀ (j : Nat) (y : Int), j < k → l[j]? = some y → wiB y 0 ((I : Int) - 1) = true) : switchOk I l = wiB (n : Int) 1 2000 := by
  have h : (l.any fun n => !wiB n 0 ((I : Int) - 1)) = false := by
    rw [List.any_eq_false]
    intro x hx
    obtain ⟨j, hj⟩ := List.mem_iff_getElem?.1 hx
    have hlt := (List.getElem?_eq_some_iff.1 hj).1
    rw [hno j x (by omega) hj]
    simp
  unfold switchOk
  rw [h, hn]
  simp
theorem BInv.drewN {N : Nat} {h : CodeH} {w wr : World} (H : BInv N h w wr) (n : Nat) : BInv N h w (wr.drewN n) := H.to (below_drewN (Below.refl _ _) n)
theorem choices_any (h : CodeH) (a : Option Addr) (n cp : Nat) (l : List Int) (w : World) (hI : h.i.n ≤ 140737488351232) (hr : Reads w w.heap.size 1 a n (intCells l)) (hn : n = l.length) (hs : n ≤ 140737488351232) :
    Calls Tryz.prog 104 #[.agg #[.slice h.i.a h.i.n h.i.c, .slice h.p.a h.p.n h.p.c, .slice h.t.a h.t.n h.t.c, .slice h.s.a h.s.n h.s.c, .slice h.g.a h.g.n h.g.c, .slice h.r.a h.r.n h.r.c, .slice h.o.a h.o.n h.o.c], .slice a n cp] w
      fun e w' => e = .returned (.bool (switchOk h.i.n l)) ∧ Below w.heap.size w w' := by
  have B0 := Lib.hid (BInv.start h w 30)
  have HR := Lib.hid hr
  have HN := Lib.hid hn
  clear hr hn
  go_enter Tryz.func104, Tryz.ntmps104
  go_wp2
  go_loopw [5] (fun i wr => ∃ k : Nat, k ≤ n ∧ i = .int .i64 k ∧ BInv w.heap.size h w wr ∧ ∀ (j : Nat) (y : Int), j < k → l[j]? = some y → wiB y 0 ((h.i.n : Int) - 1) = true) (fun i _ => n - (intOf i).toNat)
  case atStart => exact ⟨0, by omega, rfl, B0.out, fun j y hj => by omega⟩
  case round =>
    obtain ⟨k, hk, rfl, hB, hno⟩ := hrel
    have BB := Lib.hid hB
    have HNO := Lib.hid hno
    clear hno hB
    by_cases hlt : k < n
    · obtain ⟨ad, x, rfl, hx, hab, c0⟩ := Reads.elem1 (f := Value.int .i64) (HR.out.below BB.out.b) HN.out hlt
      have HX := Lib.hid hx
      clear hx hab
      have y0 := BB.out.c0
      have hi1 : (k : Int) < (n : Int) := by omega
      have hi0 : (0 : Int) ≤ (k : Int) := by omega
      cases hw : wiB x 0 ((h.i.n : Int) - 1) with
      | true =>
        have HW := Lib.hid hw
        go_wp2
        go_quiet ((go_at_call 107; exact Calls.quiet_of_same (in_any' _ _ _ _)))
        go_wp2
        go_roundw
        case rel => exact ⟨k + 1, by omega, by go_num, BB.out.drewN _, upto_succ (p := fun y => wiB y 0 ((h.i.n : Int) - 1)) HX.out HW.out HNO.out⟩
        case measure => simp [intOf]; omega
      | false =>
        have HW := Lib.hid (switchBad_at (I := h.i.n) HX.out hw)
        go_wp2
        go_quiet ((go_at_call 107; exact Calls.quiet_of_same (in_any' _ _ _ _)))
        go_wp2
        go_ret
        exact ⟨ret_bool HW.out.symm, (BB.out.drewN _).b⟩
    · have HE := Lib.hid (switchEnd (I := h.i.n) HN.out hlt HNO.out)
      go_wp2_with (go_at_call 107; refine (in_any _ _ _ _).mono ?_; rintro e w' ⟨rfl, rfl⟩)
      go_ret
      exact ⟨ret_bool HE.out.symm, BB.out.b⟩
end Go.Proofs.YtmfnholhhakgaaaGreatDoor
