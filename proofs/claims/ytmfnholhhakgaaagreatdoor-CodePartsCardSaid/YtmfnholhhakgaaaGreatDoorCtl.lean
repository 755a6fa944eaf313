/- CodeControl: its walk: it answers true. -/
import Derived.Test.YtmfnholhhakgaaaGreatDoorMgd
import Derived.Test.YtmfnholhhakgaaaGreatDoorRfd
import Derived.Test.YtmfnholhhakgaaaGreatDoorRfr
import Derived.Test.YtmfnholhhakgaaaGreatDoorSmb
namespace Go.Proofs.YtmfnholhhakgaaaGreatDoor
open Go Go.Proofs Go.RowKit Go.Sort
open Classical
set_option maxRecDepth 100000
theorem own_form {w : World} {base : Nat} {e : TypeId} {size : Nat} {v : Value} {n : Nat} {xs : List Value} (h : w.ownsRow base e size v n xs) : ∃ A c, v = .slice A n c := by
  rcases h.2 with ⟨h', h0⟩ | ⟨g, cap, cur, h', _⟩
  · exact ⟨none, 0, by rw [h', h0]⟩
  · exact ⟨_, _, h'⟩
def RetSE (w : World) (l : List Int) (err : Int) (e : Ending) (w' : World) : Prop := ∃ A c, e = .returned (.tuple #[.slice A l.length c, .int .i64 err]) ∧ Below w.heap.size w w' ∧ Reads w' w'.heap.size 1 A l.length (intCells l)
theorem retSE {w w' : World} {l : List Int} {err : Int} {e : Ending} (h : RetIntsE w l err e w') : RetSE w l err e w' := by
  obtain ⟨v, h1, h2, h3⟩ := h
  obtain ⟨A, c, rfl⟩ := own_form h2
  exact ⟨A, c, h1, h3, Reads.of_own h2⟩
def RetS (w : World) (l : List Int) (e : Ending) (w' : World) : Prop := ∃ A c, e = .returned (.slice A l.length c) ∧ Below w.heap.size w w' ∧ Reads w' w'.heap.size 1 A l.length (intCells l)
theorem retS {w w' : World} {l : List Int} {e : Ending} (h : RetInts w l e w') : RetS w l e w' := by
  obtain ⟨v, h1, h2, h3⟩ := h
  obtain ⟨A, c, rfl⟩ := own_form h2
  exact ⟨A, c, h1, h3, Reads.of_own h2⟩
def RetBE (w : World) (l : List Bool) (err : Int) (e : Ending) (w' : World) : Prop := ∃ A c, e = .returned (.tuple #[.slice A l.length c, .int .i64 err]) ∧ Below w.heap.size w w' ∧ Reads w' w'.heap.size 1 A l.length (l.map Value.bool)
theorem retBE {w w' : World} {l : List Bool} {err : Int} {e : Ending} (h : RetBoolsE w l err e w') : RetBE w l err e w' := by
  obtain ⟨v, h1, h2, h3⟩ := h
  obtain ⟨A, c, rfl⟩ := own_form h2
  exact ⟨A, c, h1, h3, Reads.of_own h2⟩
def RetB (w : World) (l : List Bool) (e : Ending) (w' : World) : Prop := ∃ A c, e = .returned (.slice A l.length c) ∧ Below w.heap.size w w' ∧ Reads w' w'.heap.size 1 A l.length (l.map Value.bool)
theorem retB {w w' : World} {l : List Bool} {e : Ending} (h : RetBools w l e w') : RetB w l e w' := by
  obtain ⟨v, h1, h2, h3⟩ := h
  obtain ⟨A, c, rfl⟩ := own_form h2
  exact ⟨A, c, h1, h3, Reads.of_own h2⟩
theorem rchL_len (c : CodeD) : (rchL c).length = c.instrs.length := by simp [rchL]
theorem beq_refl_list (l : List Int) : (l == l) = true := beq_self_eq_true _
theorem BInv.drewN' {N : Nat} {h : CodeH} {w wr : World} (H : BInv N h w wr) (n : Nat) : BInv N h w (wr.drewN n) := H.to (below_drewN (Below.refl _ _) n)
theorem Reads.keepN {w : World} {size n : Nat} {A : Option Addr} {xs : List Value} (h : Reads w w.heap.size size A n xs) (q : Nat) : Reads (w.drewN q) (w.drewN q).heap.size size A n xs := (h.below (below_drewN (Below.refl _ _) q)).more (below_drewN (Below.refl 0 w) q).size
set_option maxHeartbeats 4000000 in
theorem CodeControl_any (h : CodeH) (c : CodeD) (n : Int) (w : World) (H : CodeAt w w.heap.size h c) (hv : Vars w.heap.size w) :
    Calls Tryz.prog 9 #[.agg #[.slice h.i.a h.i.n h.i.c, .slice h.p.a h.p.n h.p.c, .slice h.t.a h.t.n h.t.c, .slice h.s.a h.s.n h.s.c, .slice h.g.a h.g.n h.g.c, .slice h.r.a h.r.n h.r.c, .slice h.o.a h.o.n h.o.c], .int .i64 n] w fun e w' => e = .returned (.bool true) ∧ Below w.heap.size w w' := by
  have HC := Lib.hid H
  have HV := Lib.hid hv
  have HN := Lib.hid H.ni.1
  have II := Lib.hid (BInv.start h w 30)
  clear hv
  have y0 := II.out.c0; have y1 := II.out.c1; have y2 := II.out.c2; have y3 := II.out.c3; have y4 := II.out.c4; have y5 := II.out.c5; have y6 := II.out.c6
  cases sa : smallB c with
  | false =>
    have SMA := Lib.hid sa
    clear sa H
    go_enter Tryz.func9, Tryz.ntmps9
    go_wp2_with (first
      | (go_at_call 12; refine (small_any h c _ (HC.out.at II.out.b)).mono ?_; rintro e w1 ⟨rfl, hb⟩; replace II := Lib.hid (II.out.below hb); (try replace R1 := Lib.hid ((R1.out.below hb).more hb.size)); (try replace R2 := Lib.hid ((R2.out.below hb).more hb.size)); (try replace R3 := Lib.hid ((R3.out.below hb).more hb.size)); clear hb; clear y0 y1 y2 y3 y4 y5 y6; have y0 := II.out.c0; have y1 := II.out.c1; have y2 := II.out.c2; have y3 := II.out.c3; have y4 := II.out.c4; have y5 := II.out.c5; have y6 := II.out.c6; rw [SMA.out])
      | (go_at_call 13; refine (sanity_ok _ (HV.out.at II.out.b II.out.b.size)).mono ?_; rintro e w1 ⟨rfl, hb⟩; replace II := Lib.hid (II.out.below hb); (try replace R1 := Lib.hid ((R1.out.below hb).more hb.size)); (try replace R2 := Lib.hid ((R2.out.below hb).more hb.size)); (try replace R3 := Lib.hid ((R3.out.below hb).more hb.size)); clear hb; clear y0 y1 y2 y3 y4 y5 y6; have y0 := II.out.c0; have y1 := II.out.c1; have y2 := II.out.c2; have y3 := II.out.c3; have y4 := II.out.c4; have y5 := II.out.c5; have y6 := II.out.c6))
    go_ret
    exact ⟨rfl, II.out.b⟩
  | true =>
    have SMA := Lib.hid sa
    clear sa
    cases hf : fineB c (largeB h) with
    | false =>
      have HF := Lib.hid hf
      have HB : Hid ((fineB c (largeB h) && wiB n 0 ((h.i.n : Int) - 1)) = false) := Lib.hid (by rw [hf]; rfl)
      clear hf H
      go_enter Tryz.func9, Tryz.ntmps9
      go_wp2_with (first
        | (go_at_call 12; refine (small_any h c _ (HC.out.at II.out.b)).mono ?_; rintro e w1 ⟨rfl, hb⟩; replace II := Lib.hid (II.out.below hb); (try replace R1 := Lib.hid ((R1.out.below hb).more hb.size)); (try replace R2 := Lib.hid ((R2.out.below hb).more hb.size)); (try replace R3 := Lib.hid ((R3.out.below hb).more hb.size)); clear hb; clear y0 y1 y2 y3 y4 y5 y6; have y0 := II.out.c0; have y1 := II.out.c1; have y2 := II.out.c2; have y3 := II.out.c3; have y4 := II.out.c4; have y5 := II.out.c5; have y6 := II.out.c6; rw [SMA.out])
        | (go_at_call 32; refine ((Entries_bad h c _ (HC.out.at II.out.b) HF.out).mono fun _ _ => retSE).mono ?_; rintro e w1 ⟨A1, k1, rfl, hb, hr⟩; replace II := Lib.hid (II.out.below hb); (try replace R1 := Lib.hid ((R1.out.below hb).more hb.size)); (try replace R2 := Lib.hid ((R2.out.below hb).more hb.size)); (try replace R3 := Lib.hid ((R3.out.below hb).more hb.size)); clear hb; have R1 := Lib.hid hr; clear hr; clear y0 y1 y2 y3 y4 y5 y6; have y0 := II.out.c0; have y1 := II.out.c1; have y2 := II.out.c2; have y3 := II.out.c3; have y4 := II.out.c4; have y5 := II.out.c5; have y6 := II.out.c6)
        | (go_at_call 33; refine ((Next_bad h c _ (HC.out.at II.out.b) n HB.out).mono fun _ _ => retSE).mono ?_; rintro e w1 ⟨A2, k2, rfl, hb, hr⟩; replace II := Lib.hid (II.out.below hb); (try replace R1 := Lib.hid ((R1.out.below hb).more hb.size)); (try replace R2 := Lib.hid ((R2.out.below hb).more hb.size)); (try replace R3 := Lib.hid ((R3.out.below hb).more hb.size)); clear hb; have R2 := Lib.hid hr; clear hr; clear y0 y1 y2 y3 y4 y5 y6; have y0 := II.out.c0; have y1 := II.out.c1; have y2 := II.out.c2; have y3 := II.out.c3; have y4 := II.out.c4; have y5 := II.out.c5; have y6 := II.out.c6)
        | (go_at_call 34; refine ((Reached_bad h c _ (HC.out.at II.out.b) HF.out).mono fun _ _ => retBE).mono ?_; rintro e w1 ⟨A3, k3, rfl, hb, hr⟩; replace II := Lib.hid (II.out.below hb); (try replace R1 := Lib.hid ((R1.out.below hb).more hb.size)); (try replace R2 := Lib.hid ((R2.out.below hb).more hb.size)); (try replace R3 := Lib.hid ((R3.out.below hb).more hb.size)); clear hb; have R3 := Lib.hid hr; clear hr; clear y0 y1 y2 y3 y4 y5 y6; have y0 := II.out.c0; have y1 := II.out.c1; have y2 := II.out.c2; have y3 := II.out.c3; have y4 := II.out.c4; have y5 := II.out.c5; have y6 := II.out.c6)
        | (go_at_call 19; refine (rValid_any h c _ (HC.out.at II.out.b)).mono ?_; rintro e w1 ⟨rfl, hb⟩; replace II := Lib.hid (II.out.below hb); (try replace R1 := Lib.hid ((R1.out.below hb).more hb.size)); (try replace R2 := Lib.hid ((R2.out.below hb).more hb.size)); (try replace R3 := Lib.hid ((R3.out.below hb).more hb.size)); clear hb; clear y0 y1 y2 y3 y4 y5 y6; have y0 := II.out.c0; have y1 := II.out.c1; have y2 := II.out.c2; have y3 := II.out.c3; have y4 := II.out.c4; have y5 := II.out.c5; have y6 := II.out.c6; rw [HF.out])
        | (go_at_call 13; refine (sanity_ok _ (HV.out.at II.out.b II.out.b.size)).mono ?_; rintro e w1 ⟨rfl, hb⟩; replace II := Lib.hid (II.out.below hb); (try replace R1 := Lib.hid ((R1.out.below hb).more hb.size)); (try replace R2 := Lib.hid ((R2.out.below hb).more hb.size)); (try replace R3 := Lib.hid ((R3.out.below hb).more hb.size)); clear hb; clear y0 y1 y2 y3 y4 y5 y6; have y0 := II.out.c0; have y1 := II.out.c1; have y2 := II.out.c2; have y3 := II.out.c3; have y4 := II.out.c4; have y5 := II.out.c5; have y6 := II.out.c6))
      go_ret
      exact ⟨rfl, II.out.b⟩
    | true =>
      have HF := Lib.hid hf
      obtain ⟨hl, W⟩ := fine_well hf
      obtain ⟨hn0, hn1, _⟩ := large_sizes hl
      have hn00 : 0 < c.instrs.length := by have := HN.out; omega
      have hL : (entL c).length ≤ h.i.n := by rw [HN.out]; exact ent_len W hn00
      have hRL : (rchL c).length = h.i.n := by rw [rchL_len, HN.out]
      obtain ⟨EL, hEL⟩ : ∃ l, entL c = l := ⟨_, rfl⟩
      obtain ⟨BL, hBL⟩ : ∃ l, rchL c = l := ⟨_, rfl⟩
      rw [hEL] at hL
      rw [hBL] at hRL
      have XE := Lib.hid hEL
      have XB := Lib.hid hBL
      have HRL := Lib.hid hRL
      have hrn : BL.length ≤ 20000 := by omega
      clear hEL hBL hf H hl W hn00 hRL
      cases hw : wiB n 0 ((h.i.n : Int) - 1) with
      | false =>
        have HB : Hid ((fineB c (largeB h) && wiB n 0 ((h.i.n : Int) - 1)) = false) := Lib.hid (by rw [HF.out, hw]; rfl)
        have hd : n < 0 ∨ (0 ≤ n ∧ (h.i.n : Int) ≤ n) := by unfold wiB at hw; simp at hw; omega
        clear hw
        go_enter Tryz.func9, Tryz.ntmps9
        go_wp2_with (first
          | (go_at_call 12; refine (small_any h c _ (HC.out.at II.out.b)).mono ?_; rintro e w1 ⟨rfl, hb⟩; replace II := Lib.hid (II.out.below hb); (try replace R1 := Lib.hid ((R1.out.below hb).more hb.size)); (try replace R2 := Lib.hid ((R2.out.below hb).more hb.size)); (try replace R3 := Lib.hid ((R3.out.below hb).more hb.size)); clear hb; clear y0 y1 y2 y3 y4 y5 y6; have y0 := II.out.c0; have y1 := II.out.c1; have y2 := II.out.c2; have y3 := II.out.c3; have y4 := II.out.c4; have y5 := II.out.c5; have y6 := II.out.c6; rw [SMA.out])
          | (go_at_call 32; refine ((Entries_ok h c _ (HC.out.at II.out.b) HF.out).mono fun _ _ => retSE).mono ?_; rintro e w1 ⟨A1, k1, rfl, hb, hr⟩; replace II := Lib.hid (II.out.below hb); (try replace R1 := Lib.hid ((R1.out.below hb).more hb.size)); (try replace R2 := Lib.hid ((R2.out.below hb).more hb.size)); (try replace R3 := Lib.hid ((R3.out.below hb).more hb.size)); clear hb; rw [XE.out] at hr; rw [XE.out]; have R1 := Lib.hid hr; clear hr; clear y0 y1 y2 y3 y4 y5 y6; have y0 := II.out.c0; have y1 := II.out.c1; have y2 := II.out.c2; have y3 := II.out.c3; have y4 := II.out.c4; have y5 := II.out.c5; have y6 := II.out.c6)
          | (go_at_call 34; refine ((Reached_ok h c _ (HC.out.at II.out.b) HF.out).mono fun _ _ => retBE).mono ?_; rintro e w1 ⟨A3, k3, rfl, hb, hr⟩; replace II := Lib.hid (II.out.below hb); (try replace R1 := Lib.hid ((R1.out.below hb).more hb.size)); (try replace R2 := Lib.hid ((R2.out.below hb).more hb.size)); (try replace R3 := Lib.hid ((R3.out.below hb).more hb.size)); clear hb; rw [XB.out] at hr; rw [XB.out]; have R3 := Lib.hid hr; clear hr; clear y0 y1 y2 y3 y4 y5 y6; have y0 := II.out.c0; have y1 := II.out.c1; have y2 := II.out.c2; have y3 := II.out.c3; have y4 := II.out.c4; have y5 := II.out.c5; have y6 := II.out.c6)
          | (go_at_call 19; refine (rValid_any h c _ (HC.out.at II.out.b)).mono ?_; rintro e w1 ⟨rfl, hb⟩; replace II := Lib.hid (II.out.below hb); (try replace R1 := Lib.hid ((R1.out.below hb).more hb.size)); (try replace R2 := Lib.hid ((R2.out.below hb).more hb.size)); (try replace R3 := Lib.hid ((R3.out.below hb).more hb.size)); clear hb; clear y0 y1 y2 y3 y4 y5 y6; have y0 := II.out.c0; have y1 := II.out.c1; have y2 := II.out.c2; have y3 := II.out.c3; have y4 := II.out.c4; have y5 := II.out.c5; have y6 := II.out.c6; rw [HF.out])
          | (go_at_call 36; refine ((rEntries_any h c _ (HC.out.at II.out.b) HF.out).mono fun _ _ => retS).mono ?_; rintro e w1 ⟨A4, k4, rfl, hb, hr⟩; replace II := Lib.hid (II.out.below hb); (try replace R1 := Lib.hid ((R1.out.below hb).more hb.size)); (try replace R2 := Lib.hid ((R2.out.below hb).more hb.size)); (try replace R3 := Lib.hid ((R3.out.below hb).more hb.size)); clear hb; rw [XE.out] at hr; rw [XE.out]; have R4 := Lib.hid hr; clear hr; clear y0 y1 y2 y3 y4 y5 y6; have y0 := II.out.c0; have y1 := II.out.c1; have y2 := II.out.c2; have y3 := II.out.c3; have y4 := II.out.c4; have y5 := II.out.c5; have y6 := II.out.c6)
          | (go_at_call 35; refine (sameInts_any A1 A4 EL.length k1 EL.length k4 EL EL _ R1.out R4.out (by omega)).mono ?_; rintro e w1 ⟨rfl, hb⟩; replace II := Lib.hid (II.out.below hb); (try replace R1 := Lib.hid ((R1.out.below hb).more hb.size)); (try replace R2 := Lib.hid ((R2.out.below hb).more hb.size)); (try replace R3 := Lib.hid ((R3.out.below hb).more hb.size)); clear hb; clear y0 y1 y2 y3 y4 y5 y6; have y0 := II.out.c0; have y1 := II.out.c1; have y2 := II.out.c2; have y3 := II.out.c3; have y4 := II.out.c4; have y5 := II.out.c5; have y6 := II.out.c6; rw [beq_refl_list]; clear R4)
          | (go_at_call 37; refine ((rReached_any h c _ (HC.out.at II.out.b) HF.out).mono fun _ _ => retB).mono ?_; rintro e w1 ⟨A5, k5, rfl, hb, hr⟩; replace II := Lib.hid (II.out.below hb); (try replace R1 := Lib.hid ((R1.out.below hb).more hb.size)); (try replace R2 := Lib.hid ((R2.out.below hb).more hb.size)); (try replace R3 := Lib.hid ((R3.out.below hb).more hb.size)); clear hb; rw [XB.out] at hr; rw [XB.out]; have R5 := Lib.hid hr; clear hr; clear y0 y1 y2 y3 y4 y5 y6; have y0 := II.out.c0; have y1 := II.out.c1; have y2 := II.out.c2; have y3 := II.out.c3; have y4 := II.out.c4; have y5 := II.out.c5; have y6 := II.out.c6)
          | (go_at_call 33; refine ((Next_bad h c _ (HC.out.at II.out.b) n HB.out).mono fun _ _ => retSE).mono ?_; rintro e w1 ⟨A2, k2, rfl, hb, hr⟩; replace II := Lib.hid (II.out.below hb); (try replace R1 := Lib.hid ((R1.out.below hb).more hb.size)); (try replace R2 := Lib.hid ((R2.out.below hb).more hb.size)); (try replace R3 := Lib.hid ((R3.out.below hb).more hb.size)); clear hb; have R2 := Lib.hid hr; clear hr; clear y0 y1 y2 y3 y4 y5 y6; have y0 := II.out.c0; have y1 := II.out.c1; have y2 := II.out.c2; have y3 := II.out.c3; have y4 := II.out.c4; have y5 := II.out.c5; have y6 := II.out.c6))
        clear y0 y1 y2 y3 y4 y5 y6
        go_loopw [12] (fun i wr => ∃ q : Nat, q ≤ BL.length ∧ i = .int .i64 q ∧ BInv w.heap.size h w wr ∧ Reads wr wr.heap.size 1 A2 0 (intCells []) ∧ Reads wr wr.heap.size 1 A3 BL.length (BL.map Value.bool) ∧ Reads wr wr.heap.size 1 A5 BL.length (BL.map Value.bool)) (fun i _ => BL.length - (intOf i).toNat)
        case atStart => exact ⟨0, by omega, rfl, II.out, R2.out, R3.out, R5.out⟩
        case round =>
          obtain ⟨q, hq, rfl, hI, hr2, hr3, hr5⟩ := hrel
          clear II R1 R2 R3 R5
          have II := Lib.hid hI
          have R2 := Lib.hid hr2
          have R3 := Lib.hid hr3
          have R5 := Lib.hid hr5
          clear hI hr2 hr3 hr5
          by_cases hlt : q < BL.length
          · obtain ⟨a3, b, h3, hb3, _, c3⟩ := Reads.elem1 (f := Value.bool) R3.out rfl hlt
            obtain ⟨a5, b', h5, hb5, _, c5⟩ := Reads.elem1 (f := Value.bool) R5.out rfl hlt
            rw [hb3] at hb5
            cases hb5
            subst h3
            subst h5
            have hi0 : (0 : Int) ≤ (q : Int) := by omega
            have hi1 : (q : Int) < (BL.length : Int) := by omega
            have hbb : (b != b) = false := by cases b <;> rfl
            clear hb3
            go_wp2
            go_quiet (fail)
            go_wp2
            go_roundw
            case rel => exact ⟨q + 1, by omega, by go_num, II.out.drewN' _, R2.out.keepN _, R3.out.keepN _, R5.out.keepN _⟩
            case measure => simp [intOf]; omega
          · have y0 := II.out.c0; have y1 := II.out.c1; have y2 := II.out.c2; have y3 := II.out.c3; have y4 := II.out.c4; have y5 := II.out.c5; have y6 := II.out.c6
            rcases hd with h1 | ⟨h1, h2⟩
            all_goals
              go_wp2_with (first
                | (go_at_call 13; refine (sanity_ok _ (HV.out.at II.out.b II.out.b.size)).mono ?_; rintro e w1 ⟨rfl, hb⟩; replace II := Lib.hid (II.out.below hb); (try replace R1 := Lib.hid ((R1.out.below hb).more hb.size)); (try replace R2 := Lib.hid ((R2.out.below hb).more hb.size)); (try replace R3 := Lib.hid ((R3.out.below hb).more hb.size)); clear hb; clear y0 y1 y2 y3 y4 y5 y6; have y0 := II.out.c0; have y1 := II.out.c1; have y2 := II.out.c2; have y3 := II.out.c3; have y4 := II.out.c4; have y5 := II.out.c5; have y6 := II.out.c6))
              go_ret
              exact ⟨rfl, II.out.b⟩
      | true =>
        have hd := wi_bounds hw
        obtain ⟨k, rfl⟩ : ∃ k : Nat, n = k := ⟨n.toNat, by omega⟩
        have hk : k < h.i.n := by omega
        obtain ⟨x, hx⟩ : ∃ x, c.instrs[k]? = some x := ⟨_, List.getElem?_eq_getElem (by have := HN.out; omega)⟩
        have HX := Lib.hid hx
        obtain ⟨NL, hNL⟩ : ∃ l, nextL x k h.i.n = l := ⟨_, rfl⟩
        have hnl : NL.length ≤ 2 := by rw [← hNL]; exact next_len x k _
        have XN := Lib.hid hNL
        clear hx hNL hw hd
        go_enter Tryz.func9, Tryz.ntmps9
        go_wp2_with (first
          | (go_at_call 12; refine (small_any h c _ (HC.out.at II.out.b)).mono ?_; rintro e w1 ⟨rfl, hb⟩; replace II := Lib.hid (II.out.below hb); (try replace R1 := Lib.hid ((R1.out.below hb).more hb.size)); (try replace R2 := Lib.hid ((R2.out.below hb).more hb.size)); (try replace R3 := Lib.hid ((R3.out.below hb).more hb.size)); clear hb; clear y0 y1 y2 y3 y4 y5 y6; have y0 := II.out.c0; have y1 := II.out.c1; have y2 := II.out.c2; have y3 := II.out.c3; have y4 := II.out.c4; have y5 := II.out.c5; have y6 := II.out.c6; rw [SMA.out])
          | (go_at_call 32; refine ((Entries_ok h c _ (HC.out.at II.out.b) HF.out).mono fun _ _ => retSE).mono ?_; rintro e w1 ⟨A1, k1, rfl, hb, hr⟩; replace II := Lib.hid (II.out.below hb); (try replace R1 := Lib.hid ((R1.out.below hb).more hb.size)); (try replace R2 := Lib.hid ((R2.out.below hb).more hb.size)); (try replace R3 := Lib.hid ((R3.out.below hb).more hb.size)); clear hb; rw [XE.out] at hr; rw [XE.out]; have R1 := Lib.hid hr; clear hr; clear y0 y1 y2 y3 y4 y5 y6; have y0 := II.out.c0; have y1 := II.out.c1; have y2 := II.out.c2; have y3 := II.out.c3; have y4 := II.out.c4; have y5 := II.out.c5; have y6 := II.out.c6)
          | (go_at_call 34; refine ((Reached_ok h c _ (HC.out.at II.out.b) HF.out).mono fun _ _ => retBE).mono ?_; rintro e w1 ⟨A3, k3, rfl, hb, hr⟩; replace II := Lib.hid (II.out.below hb); (try replace R1 := Lib.hid ((R1.out.below hb).more hb.size)); (try replace R2 := Lib.hid ((R2.out.below hb).more hb.size)); (try replace R3 := Lib.hid ((R3.out.below hb).more hb.size)); clear hb; rw [XB.out] at hr; rw [XB.out]; have R3 := Lib.hid hr; clear hr; clear y0 y1 y2 y3 y4 y5 y6; have y0 := II.out.c0; have y1 := II.out.c1; have y2 := II.out.c2; have y3 := II.out.c3; have y4 := II.out.c4; have y5 := II.out.c5; have y6 := II.out.c6)
          | (go_at_call 19; refine (rValid_any h c _ (HC.out.at II.out.b)).mono ?_; rintro e w1 ⟨rfl, hb⟩; replace II := Lib.hid (II.out.below hb); (try replace R1 := Lib.hid ((R1.out.below hb).more hb.size)); (try replace R2 := Lib.hid ((R2.out.below hb).more hb.size)); (try replace R3 := Lib.hid ((R3.out.below hb).more hb.size)); clear hb; clear y0 y1 y2 y3 y4 y5 y6; have y0 := II.out.c0; have y1 := II.out.c1; have y2 := II.out.c2; have y3 := II.out.c3; have y4 := II.out.c4; have y5 := II.out.c5; have y6 := II.out.c6; rw [HF.out])
          | (go_at_call 36; refine ((rEntries_any h c _ (HC.out.at II.out.b) HF.out).mono fun _ _ => retS).mono ?_; rintro e w1 ⟨A4, k4, rfl, hb, hr⟩; replace II := Lib.hid (II.out.below hb); (try replace R1 := Lib.hid ((R1.out.below hb).more hb.size)); (try replace R2 := Lib.hid ((R2.out.below hb).more hb.size)); (try replace R3 := Lib.hid ((R3.out.below hb).more hb.size)); clear hb; rw [XE.out] at hr; rw [XE.out]; have R4 := Lib.hid hr; clear hr; clear y0 y1 y2 y3 y4 y5 y6; have y0 := II.out.c0; have y1 := II.out.c1; have y2 := II.out.c2; have y3 := II.out.c3; have y4 := II.out.c4; have y5 := II.out.c5; have y6 := II.out.c6)
          | (go_at_call 35; refine (sameInts_any A1 A4 EL.length k1 EL.length k4 EL EL _ R1.out R4.out (by omega)).mono ?_; rintro e w1 ⟨rfl, hb⟩; replace II := Lib.hid (II.out.below hb); (try replace R1 := Lib.hid ((R1.out.below hb).more hb.size)); (try replace R2 := Lib.hid ((R2.out.below hb).more hb.size)); (try replace R3 := Lib.hid ((R3.out.below hb).more hb.size)); clear hb; clear y0 y1 y2 y3 y4 y5 y6; have y0 := II.out.c0; have y1 := II.out.c1; have y2 := II.out.c2; have y3 := II.out.c3; have y4 := II.out.c4; have y5 := II.out.c5; have y6 := II.out.c6; rw [beq_refl_list]; clear R4)
          | (go_at_call 37; refine ((rReached_any h c _ (HC.out.at II.out.b) HF.out).mono fun _ _ => retB).mono ?_; rintro e w1 ⟨A5, k5, rfl, hb, hr⟩; replace II := Lib.hid (II.out.below hb); (try replace R1 := Lib.hid ((R1.out.below hb).more hb.size)); (try replace R2 := Lib.hid ((R2.out.below hb).more hb.size)); (try replace R3 := Lib.hid ((R3.out.below hb).more hb.size)); clear hb; rw [XB.out] at hr; rw [XB.out]; have R5 := Lib.hid hr; clear hr; clear y0 y1 y2 y3 y4 y5 y6; have y0 := II.out.c0; have y1 := II.out.c1; have y2 := II.out.c2; have y3 := II.out.c3; have y4 := II.out.c4; have y5 := II.out.c5; have y6 := II.out.c6)
          | (go_at_call 33; refine ((Next_ok h c _ (HC.out.at II.out.b) k x HX.out hk HF.out).mono fun _ _ => retSE).mono ?_; rintro e w1 ⟨A2, k2, rfl, hb, hr⟩; replace II := Lib.hid (II.out.below hb); (try replace R1 := Lib.hid ((R1.out.below hb).more hb.size)); (try replace R2 := Lib.hid ((R2.out.below hb).more hb.size)); (try replace R3 := Lib.hid ((R3.out.below hb).more hb.size)); clear hb; rw [XN.out] at hr; rw [XN.out]; have R2 := Lib.hid hr; clear hr; clear y0 y1 y2 y3 y4 y5 y6; have y0 := II.out.c0; have y1 := II.out.c1; have y2 := II.out.c2; have y3 := II.out.c3; have y4 := II.out.c4; have y5 := II.out.c5; have y6 := II.out.c6))
        clear y0 y1 y2 y3 y4 y5 y6
        go_loopw [12] (fun i wr => ∃ q : Nat, q ≤ BL.length ∧ i = .int .i64 q ∧ BInv w.heap.size h w wr ∧ Reads wr wr.heap.size 1 A2 NL.length (intCells NL) ∧ Reads wr wr.heap.size 1 A3 BL.length (BL.map Value.bool) ∧ Reads wr wr.heap.size 1 A5 BL.length (BL.map Value.bool)) (fun i _ => BL.length - (intOf i).toNat)
        case atStart => exact ⟨0, by omega, rfl, II.out, R2.out, R3.out, R5.out⟩
        case round =>
          obtain ⟨q, hq, rfl, hI, hr2, hr3, hr5⟩ := hrel
          clear II R1 R2 R3 R5
          have II := Lib.hid hI
          have R2 := Lib.hid hr2
          have R3 := Lib.hid hr3
          have R5 := Lib.hid hr5
          clear hI hr2 hr3 hr5
          by_cases hlt : q < BL.length
          · obtain ⟨a3, b, h3, hb3, _, c3⟩ := Reads.elem1 (f := Value.bool) R3.out rfl hlt
            obtain ⟨a5, b', h5, hb5, _, c5⟩ := Reads.elem1 (f := Value.bool) R5.out rfl hlt
            rw [hb3] at hb5
            cases hb5
            subst h3
            subst h5
            have hi0 : (0 : Int) ≤ (q : Int) := by omega
            have hi1 : (q : Int) < (BL.length : Int) := by omega
            have hbb : (b != b) = false := by cases b <;> rfl
            clear hb3
            go_wp2
            go_quiet (fail)
            go_wp2
            go_roundw
            case rel => exact ⟨q + 1, by omega, by go_num, II.out.drewN' _, R2.out.keepN _, R3.out.keepN _, R5.out.keepN _⟩
            case measure => simp [intOf]; omega
          · have y0 := II.out.c0; have y1 := II.out.c1; have y2 := II.out.c2; have y3 := II.out.c3; have y4 := II.out.c4; have y5 := II.out.c5; have y6 := II.out.c6
            have hk2 : (k : Int) < (h.i.n : Int) := by omega
            go_wp2_with (first
              | (go_at_call 13; refine (sanity_ok _ (HV.out.at II.out.b II.out.b.size)).mono ?_; rintro e w1 ⟨rfl, hb⟩; replace II := Lib.hid (II.out.below hb); (try replace R1 := Lib.hid ((R1.out.below hb).more hb.size)); (try replace R2 := Lib.hid ((R2.out.below hb).more hb.size)); (try replace R3 := Lib.hid ((R3.out.below hb).more hb.size)); clear hb; clear y0 y1 y2 y3 y4 y5 y6; have y0 := II.out.c0; have y1 := II.out.c1; have y2 := II.out.c2; have y3 := II.out.c3; have y4 := II.out.c4; have y5 := II.out.c5; have y6 := II.out.c6)
              | (go_at_call 38; refine ((rNext_any h c _ (HC.out.at II.out.b) HF.out k x HX.out hk).mono fun _ _ => retS).mono ?_; rintro e w1 ⟨A6, k6, rfl, hb, hr⟩; replace II := Lib.hid (II.out.below hb); (try replace R1 := Lib.hid ((R1.out.below hb).more hb.size)); (try replace R2 := Lib.hid ((R2.out.below hb).more hb.size)); (try replace R3 := Lib.hid ((R3.out.below hb).more hb.size)); clear hb; rw [XN.out] at hr; rw [XN.out]; have R6 := Lib.hid hr; clear hr; clear y0 y1 y2 y3 y4 y5 y6; have y0 := II.out.c0; have y1 := II.out.c1; have y2 := II.out.c2; have y3 := II.out.c3; have y4 := II.out.c4; have y5 := II.out.c5; have y6 := II.out.c6)
              | (go_at_call 35; refine (sameInts_any A2 A6 NL.length k2 NL.length k6 NL NL _ R2.out R6.out (by omega)).mono ?_; rintro e w1 ⟨rfl, hb⟩; replace II := Lib.hid (II.out.below hb); (try replace R1 := Lib.hid ((R1.out.below hb).more hb.size)); (try replace R2 := Lib.hid ((R2.out.below hb).more hb.size)); (try replace R3 := Lib.hid ((R3.out.below hb).more hb.size)); clear hb; clear y0 y1 y2 y3 y4 y5 y6; have y0 := II.out.c0; have y1 := II.out.c1; have y2 := II.out.c2; have y3 := II.out.c3; have y4 := II.out.c4; have y5 := II.out.c5; have y6 := II.out.c6; rw [beq_refl_list]))
            go_ret
            exact ⟨rfl, II.out.b⟩
end Go.Proofs.YtmfnholhhakgaaaGreatDoor
