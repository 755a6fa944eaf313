/- CodeChecks: its walk: it answers true. -/
import Derived.Test.YtmfnholhhakgaaaGreatDoorMgd
import Derived.Test.YtmfnholhhakgaaaGreatDoorRfd
import Derived.Test.YtmfnholhhakgaaaGreatDoorRse
import Derived.Test.YtmfnholhhakgaaaGreatDoorSmb
import Derived.Deep.RegionHeld3
namespace Go.Proofs.YtmfnholhhakgaaaGreatDoor
open Go Go.Proofs Go.RowKit Go.Sort
open Classical
set_option maxRecDepth 100000
theorem same_self (a : CodeD) : decide (a = a) = true := decide_eq_true rfl
set_option maxHeartbeats 4000000 in
theorem CodeChecks_any (h g : CodeH) (a b : CodeD) (w : World) (Ha : CodeAt w w.heap.size h a) (Hb : CodeAt w w.heap.size g b) (hv : Vars w.heap.size w) :
    Calls Tryz.prog 3 #[.agg #[.slice h.i.a h.i.n h.i.c, .slice h.p.a h.p.n h.p.c, .slice h.t.a h.t.n h.t.c, .slice h.s.a h.s.n h.s.c, .slice h.g.a h.g.n h.g.c, .slice h.r.a h.r.n h.r.c, .slice h.o.a h.o.n h.o.c], .agg #[.slice g.i.a g.i.n g.i.c, .slice g.p.a g.p.n g.p.c, .slice g.t.a g.t.n g.t.c, .slice g.s.a g.s.n g.s.c, .slice g.g.a g.g.n g.g.c, .slice g.r.a g.r.n g.r.c, .slice g.o.a g.o.n g.o.c]] w fun e w' => e = .returned (.bool true) ∧ Below w.heap.size w w' := by
  have HA := Lib.hid Ha
  have HB := Lib.hid Hb
  have HV := Lib.hid hv
  have II := Lib.hid (SInv.start h g w)
  clear Ha Hb hv
  have y0 := II.out.x.c0; have y1 := II.out.x.c1; have y2 := II.out.x.c2; have y3 := II.out.x.c3; have y4 := II.out.x.c4; have y5 := II.out.x.c5; have y6 := II.out.x.c6; have d0 := II.out.d0; have d1 := II.out.d1; have d2 := II.out.d2; have d3 := II.out.d3; have d4 := II.out.d4; have d5 := II.out.d5; have d6 := II.out.d6
  cases sa : smallB a with
  | false =>
    have SMA := Lib.hid sa
    clear sa
    go_enter Tryz.func3, Tryz.ntmps3
    go_wp2_with (first | (go_at_call 12; refine (small_any h a _ (HA.out.at II.out.x.b)).mono ?_; rintro e w1 ⟨rfl, hb⟩; replace II := Lib.hid (II.out.below hb); clear hb; clear y0 y1 y2 y3 y4 y5 y6 d0 d1 d2 d3 d4 d5 d6; have y0 := II.out.x.c0; have y1 := II.out.x.c1; have y2 := II.out.x.c2; have y3 := II.out.x.c3; have y4 := II.out.x.c4; have y5 := II.out.x.c5; have y6 := II.out.x.c6; have d0 := II.out.d0; have d1 := II.out.d1; have d2 := II.out.d2; have d3 := II.out.d3; have d4 := II.out.d4; have d5 := II.out.d5; have d6 := II.out.d6; rw [SMA.out]; have T12 := trivial) | (go_at_call 13; refine (sanity_ok _ (HV.out.at II.out.x.b II.out.x.b.size)).mono ?_; rintro e w5 ⟨rfl, hb⟩; replace II := Lib.hid (II.out.below hb); clear hb))
    go_ret
    exact ⟨rfl, II.out.x.b⟩
  | true =>
    have SMA := Lib.hid sa
    clear sa
    cases sb : smallB b with
    | false =>
      have SMB := Lib.hid sb
      clear sb
      go_enter Tryz.func3, Tryz.ntmps3
      go_wp2_with (first | (go_at_call 12; have T := T12; refine (small_any g b _ (HB.out.at II.out.x.b)).mono ?_; rintro e w2 ⟨rfl, hb⟩; replace II := Lib.hid (II.out.below hb); clear hb; clear y0 y1 y2 y3 y4 y5 y6 d0 d1 d2 d3 d4 d5 d6; have y0 := II.out.x.c0; have y1 := II.out.x.c1; have y2 := II.out.x.c2; have y3 := II.out.x.c3; have y4 := II.out.x.c4; have y5 := II.out.x.c5; have y6 := II.out.x.c6; have d0 := II.out.d0; have d1 := II.out.d1; have d2 := II.out.d2; have d3 := II.out.d3; have d4 := II.out.d4; have d5 := II.out.d5; have d6 := II.out.d6; rw [SMB.out]) | (go_at_call 12; refine (small_any h a _ (HA.out.at II.out.x.b)).mono ?_; rintro e w1 ⟨rfl, hb⟩; replace II := Lib.hid (II.out.below hb); clear hb; clear y0 y1 y2 y3 y4 y5 y6 d0 d1 d2 d3 d4 d5 d6; have y0 := II.out.x.c0; have y1 := II.out.x.c1; have y2 := II.out.x.c2; have y3 := II.out.x.c3; have y4 := II.out.x.c4; have y5 := II.out.x.c5; have y6 := II.out.x.c6; have d0 := II.out.d0; have d1 := II.out.d1; have d2 := II.out.d2; have d3 := II.out.d3; have d4 := II.out.d4; have d5 := II.out.d5; have d6 := II.out.d6; rw [SMA.out]; have T12 := trivial) | (go_at_call 13; refine (sanity_ok _ (HV.out.at II.out.x.b II.out.x.b.size)).mono ?_; rintro e w5 ⟨rfl, hb⟩; replace II := Lib.hid (II.out.below hb); clear hb))
      go_ret
      exact ⟨rfl, II.out.x.b⟩
    | true =>
      have SMB := Lib.hid sb
      clear sb
      obtain ⟨E, hE⟩ : ∃ E, chkErr a (largeB h) = E := ⟨_, rfl⟩
      obtain ⟨P, hP⟩ : ∃ P, chkAt a (largeB h) = P := ⟨_, rfl⟩
      obtain ⟨v, hd⟩ : ∃ v, decide (a = b) = v := ⟨_, rfl⟩
      have EE := Lib.hid hE
      have PP := Lib.hid hP
      have DB := Lib.hid hd
      have he2 : (E == E) = true := beq_self_eq_true _
      have hp2 : (P == P) = true := beq_self_eq_true _
      have hv2 : (v == v) = true := beq_self_eq_true _
      clear hE hP hd
      go_enter Tryz.func3, Tryz.ntmps3
      go_wp2_with (first
        | (go_at_call 12; have T := T12; refine (small_any g b _ (HB.out.at II.out.x.b)).mono ?_; rintro e w2 ⟨rfl, hb⟩; replace II := Lib.hid (II.out.below hb); clear hb; clear y0 y1 y2 y3 y4 y5 y6 d0 d1 d2 d3 d4 d5 d6; have y0 := II.out.x.c0; have y1 := II.out.x.c1; have y2 := II.out.x.c2; have y3 := II.out.x.c3; have y4 := II.out.x.c4; have y5 := II.out.x.c5; have y6 := II.out.x.c6; have d0 := II.out.d0; have d1 := II.out.d1; have d2 := II.out.d2; have d3 := II.out.d3; have d4 := II.out.d4; have d5 := II.out.d5; have d6 := II.out.d6; rw [SMB.out])
        | (go_at_call 12; refine (small_any h a _ (HA.out.at II.out.x.b)).mono ?_; rintro e w1 ⟨rfl, hb⟩; replace II := Lib.hid (II.out.below hb); clear hb; clear y0 y1 y2 y3 y4 y5 y6 d0 d1 d2 d3 d4 d5 d6; have y0 := II.out.x.c0; have y1 := II.out.x.c1; have y2 := II.out.x.c2; have y3 := II.out.x.c3; have y4 := II.out.x.c4; have y5 := II.out.x.c5; have y6 := II.out.x.c6; have d0 := II.out.d0; have d1 := II.out.d1; have d2 := II.out.d2; have d3 := II.out.d3; have d4 := II.out.d4; have d5 := II.out.d5; have d6 := II.out.d6; rw [SMA.out]; have T12 := trivial)
        | (go_at_call 14; refine (Check_any h a _ (HA.out.at II.out.x.b)).mono ?_; rintro e w3 ⟨rfl, hb⟩; replace II := Lib.hid (II.out.below hb); clear hb; clear y0 y1 y2 y3 y4 y5 y6 d0 d1 d2 d3 d4 d5 d6; have y0 := II.out.x.c0; have y1 := II.out.x.c1; have y2 := II.out.x.c2; have y3 := II.out.x.c3; have y4 := II.out.x.c4; have y5 := II.out.x.c5; have y6 := II.out.x.c6; have d0 := II.out.d0; have d1 := II.out.d1; have d2 := II.out.d2; have d3 := II.out.d3; have d4 := II.out.d4; have d5 := II.out.d5; have d6 := II.out.d6; rw [EE.out, PP.out])
        | (go_at_call 15; refine (rCheck_any h a _ (HA.out.at II.out.x.b)).mono ?_; rintro e w4 ⟨rfl, hb⟩; replace II := Lib.hid (II.out.below hb); clear hb; clear y0 y1 y2 y3 y4 y5 y6 d0 d1 d2 d3 d4 d5 d6; have y0 := II.out.x.c0; have y1 := II.out.x.c1; have y2 := II.out.x.c2; have y3 := II.out.x.c3; have y4 := II.out.x.c4; have y5 := II.out.x.c5; have y6 := II.out.x.c6; have d0 := II.out.d0; have d1 := II.out.d1; have d2 := II.out.d2; have d3 := II.out.d3; have d4 := II.out.d4; have d5 := II.out.d5; have d6 := II.out.d6; rw [EE.out, PP.out]))
      replace II := Lib.hid II.out.drew
      go_region_held3 (fun w' => w'.cell? ⟨w.heap.size, 0, none⟩ = some (.slice h.i.a h.i.n h.i.c) ∧ w'.cell? ⟨w.heap.size, 1, none⟩ = some (.slice h.p.a h.p.n h.p.c) ∧ w'.cell? ⟨w.heap.size, 2, none⟩ = some (.slice h.t.a h.t.n h.t.c) ∧ w'.cell? ⟨w.heap.size, 3, none⟩ = some (.slice h.s.a h.s.n h.s.c) ∧ w'.cell? ⟨w.heap.size, 4, none⟩ = some (.slice h.g.a h.g.n h.g.c) ∧ w'.cell? ⟨w.heap.size, 5, none⟩ = some (.slice h.r.a h.r.n h.r.c) ∧ w'.cell? ⟨w.heap.size, 6, none⟩ = some (.slice h.o.a h.o.n h.o.c) ∧ w'.cell? ⟨w.heap.size + 1, 0, none⟩ = some (.slice g.i.a g.i.n g.i.c) ∧ w'.cell? ⟨w.heap.size + 1, 1, none⟩ = some (.slice g.p.a g.p.n g.p.c) ∧ w'.cell? ⟨w.heap.size + 1, 2, none⟩ = some (.slice g.t.a g.t.n g.t.c) ∧ w'.cell? ⟨w.heap.size + 1, 3, none⟩ = some (.slice g.s.a g.s.n g.s.c) ∧ w'.cell? ⟨w.heap.size + 1, 4, none⟩ = some (.slice g.g.a g.g.n g.g.c) ∧ w'.cell? ⟨w.heap.size + 1, 5, none⟩ = some (.slice g.r.a g.r.n g.r.c) ∧ w'.cell? ⟨w.heap.size + 1, 6, none⟩ = some (.slice g.o.a g.o.n g.o.c))
        (first | (exact ⟨II.out.x.c0, II.out.x.c1, II.out.x.c2, II.out.x.c3, II.out.x.c4, II.out.x.c5, II.out.x.c6, II.out.d0, II.out.d1, II.out.d2, II.out.d3, II.out.d4, II.out.d5, II.out.d6⟩) | go_keep)
        (first
          | (go_at_call 13; refine (sanity_ok _ (HV.out.at II.out.x.b II.out.x.b.size)).mono ?_; rintro e w5 ⟨rfl, hb⟩; replace II := Lib.hid (II.out.below hb); clear hb)
          | (go_at_call 16; have T := T17; refine (Same_any h h a a _ (HA.out.at II.out.x.b) (HA.out.at II.out.x.b)).mono ?_; rintro e w8 ⟨rfl, hb⟩; replace II := Lib.hid (II.out.below hb); clear hb; rw [same_self])
          | (go_at_call 16; refine (Same_any h g a b _ (HA.out.at II.out.x.b) (HB.out.at II.out.x.b)).mono ?_; rintro e w6 ⟨rfl, hb⟩; replace II := Lib.hid (II.out.below hb); clear hb; rw [DB.out])
          | (go_at_call 17; refine (rSame_any h g a b _ (HA.out.at II.out.x.b) (HB.out.at II.out.x.b)).mono ?_; rintro e w7 ⟨rfl, hb⟩; replace II := Lib.hid (II.out.below hb); clear hb; have T17 := trivial; rw [DB.out]))
      go_wp2
      go_ret
      exact ⟨rfl, II.out.x.b⟩
end Go.Proofs.YtmfnholhhakgaaaGreatDoor
