/- CodeJoins: its walk: it answers true. -/
import Derived.Test.YtmfnholhhakgaaaGreatDoorJrc
import Derived.Test.YtmfnholhhakgaaaGreatDoorJbd
import Derived.Test.YtmfnholhhakgaaaGreatDoorRse
import Derived.Test.YtmfnholhhakgaaaGreatDoorSmb
import Derived.Test.YtmfnholhhakgaaaGreatDoorMgd
namespace Go.Proofs.YtmfnholhhakgaaaGreatDoor
open Go Go.Proofs Go.RowKit Go.Sort
set_option maxRecDepth 100000
def nilH : CodeH := ⟨⟨none, 0, 0⟩, ⟨none, 0, 0⟩, ⟨none, 0, 0⟩, ⟨none, 0, 0⟩, ⟨none, 0, 0⟩, ⟨none, 0, 0⟩, ⟨none, 0, 0⟩⟩
def nilD : CodeD := ⟨[], [], [], [], [], [], []⟩
theorem nil_at (w : World) : CodeAt w w.heap.size nilH nilD := by
  have nil : ∀ s, Reads w w.heap.size s none 0 [] := fun s => ⟨by simp, fun h => absurd h (by omega)⟩
  have small : Small 0 := by unfold Small; omega
  exact { i := nil 4, p := nil 5, t := nil 3, s := ⟨[], nil 1, rfl, fun k x l hx _ => by simp at hx⟩, g := nil 1, r := nil 2, o := nil 1, ni := ⟨rfl, small⟩, np := ⟨rfl, small⟩, nt := ⟨rfl, small⟩, ns := ⟨rfl, small⟩, ng := ⟨rfl, small⟩, nr := ⟨rfl, small⟩, no := ⟨rfl, small⟩, zs := fun s hs => by simp [nilD] at hs, wr := fun x hx => by simp [nilD] at hx }
open Classical in
theorem rSame_eq (h g : CodeH) (a b : CodeD) (w : World) (Ha : CodeAt w w.heap.size h a) (Hb : CodeAt w w.heap.size g b) (he : a = b) :
    Calls Tryz.prog 17 #[.agg #[.slice h.i.a h.i.n h.i.c, .slice h.p.a h.p.n h.p.c, .slice h.t.a h.t.n h.t.c, .slice h.s.a h.s.n h.s.c, .slice h.g.a h.g.n h.g.c, .slice h.r.a h.r.n h.r.c, .slice h.o.a h.o.n h.o.c], .agg #[.slice g.i.a g.i.n g.i.c, .slice g.p.a g.p.n g.p.c, .slice g.t.a g.t.n g.t.c, .slice g.s.a g.s.n g.s.c, .slice g.g.a g.g.n g.g.c, .slice g.r.a g.r.n g.r.c, .slice g.o.a g.o.n g.o.c]] w fun e w' => e = .returned (.bool true) ∧ Below w.heap.size w w' :=
  (rSame_any h g a b w Ha Hb).mono fun e w' ⟨h1, h2⟩ => ⟨h1.trans (by simp [he]), h2⟩
theorem largeD_small {h : CodeH} {a b : CodeD} (sa : smallB a = true) (sb : smallB b = true) (h0 : 0 < a.instrs.length) : largeD (joinD h a b) = false := by
  unfold smallB at sa sb
  simp only [Bool.and_eq_true, decide_eq_true_eq] at sa sb
  obtain ⟨⟨⟨⟨⟨⟨⟨⟨_, _⟩, h1⟩, h2⟩, h3⟩, h4⟩, h5⟩, h6⟩, h7⟩ := sa
  obtain ⟨⟨⟨⟨⟨⟨⟨⟨_, _⟩, k1⟩, k2⟩, k3⟩, k4⟩, k5⟩, k6⟩, k7⟩ := sb
  unfold largeD joinD
  simp only [List.length_append, List.length_map, decide_eq_false_iff_not]
  omega
set_option maxHeartbeats 8000000 in
theorem CodeJoins_large (h g : CodeH) (a b : CodeD) (w : World) (Ha : CodeAt w w.heap.size h a) (Hb : CodeAt w w.heap.size g b) (hv : Vars w.heap.size w) (hbad : smallB a = false ∨ (smallB a = true ∧ smallB b = false)) : Calls Tryz.prog 4 #[.agg #[.slice h.i.a h.i.n h.i.c, .slice h.p.a h.p.n h.p.c, .slice h.t.a h.t.n h.t.c, .slice h.s.a h.s.n h.s.c, .slice h.g.a h.g.n h.g.c, .slice h.r.a h.r.n h.r.c, .slice h.o.a h.o.n h.o.c], .agg #[.slice g.i.a g.i.n g.i.c, .slice g.p.a g.p.n g.p.c, .slice g.t.a g.t.n g.t.c, .slice g.s.a g.s.n g.s.c, .slice g.g.a g.g.n g.g.c, .slice g.r.a g.r.n g.r.c, .slice g.o.a g.o.n g.o.c]] w fun e w' => e = .returned (.bool true) ∧ Below w.heap.size w w' := by
  have HA := Lib.hid Ha
  have HB := Lib.hid Hb
  have HV := Lib.hid hv
  have IA := Lib.hid ((BInv.start h w 30).alloc (.cells #[.slice g.i.a g.i.n g.i.c, .slice g.p.a g.p.n g.p.c, .slice g.t.a g.t.n g.t.c, .slice g.s.a g.s.n g.s.c, .slice g.g.a g.g.n g.g.c, .slice g.r.a g.r.n g.r.c, .slice g.o.a g.o.n g.o.c] 30))
  have IB0 := BInv.start g (w.alloc (.cells #[.slice h.i.a h.i.n h.i.c, .slice h.p.a h.p.n h.p.c, .slice h.t.a h.t.n h.t.c, .slice h.s.a h.s.n h.s.c, .slice h.g.a h.g.n h.g.c, .slice h.r.a h.r.n h.r.c, .slice h.o.a h.o.n h.o.c] 30)) 30
  rw [World.size_alloc] at IB0
  have IB := Lib.hid IB0
  have T0 := trivial
  clear IB0 hv Ha Hb
  have yA0 := IA.out.c0; have yA1 := IA.out.c1; have yA2 := IA.out.c2; have yA3 := IA.out.c3; have yA4 := IA.out.c4; have yA5 := IA.out.c5; have yA6 := IA.out.c6
  have yB0 := IB.out.c0; have yB1 := IB.out.c1; have yB2 := IB.out.c2; have yB3 := IB.out.c3; have yB4 := IB.out.c4; have yB5 := IB.out.c5; have yB6 := IB.out.c6
  rcases hbad with sa | ⟨sa, sb⟩
  all_goals
    have SMA := Lib.hid sa
    try have SMB := Lib.hid sb
    clear sa
    try clear sb
    go_enter Tryz.func4, Tryz.ntmps4
    go_wp2_with (first
      | (go_at_call 12; have T2 := T1; refine (small_any g b _ (HB.out.at IA.out.b)).mono ?_; rintro e w2 ⟨rfl, hb⟩; replace IA := Lib.hid (IA.out.below hb); replace IB := Lib.hid (IB.out.below hb); rw [SMB.out]; clear yA0 yA1 yA2 yA3 yA4 yA5 yA6; clear yB0 yB1 yB2 yB3 yB4 yB5 yB6; have yA0 := IA.out.c0; have yA1 := IA.out.c1; have yA2 := IA.out.c2; have yA3 := IA.out.c3; have yA4 := IA.out.c4; have yA5 := IA.out.c5; have yA6 := IA.out.c6; have yB0 := IB.out.c0; have yB1 := IB.out.c1; have yB2 := IB.out.c2; have yB3 := IB.out.c3; have yB4 := IB.out.c4; have yB5 := IB.out.c5; have yB6 := IB.out.c6; clear hb; clear T1)
      | (go_at_call 12; have T1 := T0; refine (small_any h a _ (HA.out.at IA.out.b)).mono ?_; rintro e w1 ⟨rfl, hb⟩; replace IA := Lib.hid (IA.out.below hb); replace IB := Lib.hid (IB.out.below hb); rw [SMA.out]; clear yA0 yA1 yA2 yA3 yA4 yA5 yA6; clear yB0 yB1 yB2 yB3 yB4 yB5 yB6; have yA0 := IA.out.c0; have yA1 := IA.out.c1; have yA2 := IA.out.c2; have yA3 := IA.out.c3; have yA4 := IA.out.c4; have yA5 := IA.out.c5; have yA6 := IA.out.c6; have yB0 := IB.out.c0; have yB1 := IB.out.c1; have yB2 := IB.out.c2; have yB3 := IB.out.c3; have yB4 := IB.out.c4; have yB5 := IB.out.c5; have yB6 := IB.out.c6; clear hb; clear T0)
      | (go_at_call 13; refine (sanity_ok _ (HV.out.at IA.out.b IA.out.b.size)).mono ?_; rintro e w20 ⟨rfl, hb⟩; replace IA := Lib.hid (IA.out.below hb); clear hb))
    go_ret
    exact ⟨rfl, IA.out.b⟩
set_option maxHeartbeats 8000000 in
theorem CodeJoins_bad0 (h g : CodeH) (a b : CodeD) (w : World) (Ha : CodeAt w w.heap.size h a) (Hb : CodeAt w w.heap.size g b) (hv : Vars w.heap.size w) (sa : smallB a = true) (sb : smallB b = true) (fa : fineB a (largeB h) = false) : Calls Tryz.prog 4 #[.agg #[.slice h.i.a h.i.n h.i.c, .slice h.p.a h.p.n h.p.c, .slice h.t.a h.t.n h.t.c, .slice h.s.a h.s.n h.s.c, .slice h.g.a h.g.n h.g.c, .slice h.r.a h.r.n h.r.c, .slice h.o.a h.o.n h.o.c], .agg #[.slice g.i.a g.i.n g.i.c, .slice g.p.a g.p.n g.p.c, .slice g.t.a g.t.n g.t.c, .slice g.s.a g.s.n g.s.c, .slice g.g.a g.g.n g.g.c, .slice g.r.a g.r.n g.r.c, .slice g.o.a g.o.n g.o.c]] w fun e w' => e = .returned (.bool true) ∧ Below w.heap.size w w' := by
  have SMA := Lib.hid sa
  have SMB := Lib.hid sb
  have HFA := Lib.hid fa
  have HFAB : Hid ((fineB a (largeB h) && fineB b (largeB g)) = false) := Lib.hid (by rw [fa]; rfl)
  clear sa sb fa
  have HA := Lib.hid Ha
  have HB := Lib.hid Hb
  have HV := Lib.hid hv
  have IA := Lib.hid ((BInv.start h w 30).alloc (.cells #[.slice g.i.a g.i.n g.i.c, .slice g.p.a g.p.n g.p.c, .slice g.t.a g.t.n g.t.c, .slice g.s.a g.s.n g.s.c, .slice g.g.a g.g.n g.g.c, .slice g.r.a g.r.n g.r.c, .slice g.o.a g.o.n g.o.c] 30))
  have IB0 := BInv.start g (w.alloc (.cells #[.slice h.i.a h.i.n h.i.c, .slice h.p.a h.p.n h.p.c, .slice h.t.a h.t.n h.t.c, .slice h.s.a h.s.n h.s.c, .slice h.g.a h.g.n h.g.c, .slice h.r.a h.r.n h.r.c, .slice h.o.a h.o.n h.o.c] 30)) 30
  rw [World.size_alloc] at IB0
  have IB := Lib.hid IB0
  have T0 := trivial
  clear IB0 hv Ha Hb
  have yA0 := IA.out.c0; have yA1 := IA.out.c1; have yA2 := IA.out.c2; have yA3 := IA.out.c3; have yA4 := IA.out.c4; have yA5 := IA.out.c5; have yA6 := IA.out.c6
  have yB0 := IB.out.c0; have yB1 := IB.out.c1; have yB2 := IB.out.c2; have yB3 := IB.out.c3; have yB4 := IB.out.c4; have yB5 := IB.out.c5; have yB6 := IB.out.c6
  go_enter Tryz.func4, Tryz.ntmps4
  go_wp2_with (first
    | (go_at_call 17; have T6 := T5; refine (rSame_eq nilH nilH nilD nilD _ (nil_at _) (nil_at _) rfl).mono ?_; rintro e w7 ⟨rfl, hb⟩; replace IA := Lib.hid (IA.out.below hb); replace IB := Lib.hid (IB.out.below hb); replace ID := Lib.hid (ID.out.below hb); clear yD0 yD1 yD2 yD3 yD4 yD5 yD6; clear hb; clear T5)
    | (go_at_call 13; have T5 := T4; refine (sanity_ok _ (HV.out.at IA.out.b IA.out.b.size)).mono ?_; rintro e w6 ⟨rfl, hb⟩; replace IA := Lib.hid (IA.out.below hb); replace IB := Lib.hid (IB.out.below hb); replace ID := Lib.hid (ID.out.below hb); clear yB0 yB1 yB2 yB3 yB4 yB5 yB6; clear yD0 yD1 yD2 yD3 yD4 yD5 yD6; have yD0 := ID.out.c0; have yD1 := ID.out.c1; have yD2 := ID.out.c2; have yD3 := ID.out.c3; have yD4 := ID.out.c4; have yD5 := ID.out.c5; have yD6 := ID.out.c6; clear hb; clear T4)
    | (go_at_call 19; have T4 := T3; refine (rValid_any h a _ (HA.out.at IA.out.b)).mono ?_; rintro e w4 ⟨rfl, hb⟩; replace IA := Lib.hid (IA.out.below hb); replace IB := Lib.hid (IB.out.below hb); replace ID := Lib.hid (ID.out.below hb); rw [HFA.out]; clear yA0 yA1 yA2 yA3 yA4 yA5 yA6; clear yB0 yB1 yB2 yB3 yB4 yB5 yB6; have yB0 := IB.out.c0; have yB1 := IB.out.c1; have yB2 := IB.out.c2; have yB3 := IB.out.c3; have yB4 := IB.out.c4; have yB5 := IB.out.c5; have yB6 := IB.out.c6; have yD0 := ID.out.c0; have yD1 := ID.out.c1; have yD2 := ID.out.c2; have yD3 := ID.out.c3; have yD4 := ID.out.c4; have yD5 := ID.out.c5; have yD6 := ID.out.c6; clear hb; clear T3)
    | (go_at_call 18; have T3 := T2; refine (Join_bad h g a b _ (HA.out.at IA.out.b) (HB.out.at IA.out.b) HFAB.out).mono ?_; rintro e w3 ⟨rfl, hb⟩; replace IA := Lib.hid ((IA.out.below hb).alloc (.cells #[.slice none 0 0, .slice none 0 0, .slice none 0 0, .slice none 0 0, .slice none 0 0, .slice none 0 0, .slice none 0 0] 30)); replace IB := Lib.hid ((IB.out.below hb).alloc (.cells #[.slice none 0 0, .slice none 0 0, .slice none 0 0, .slice none 0 0, .slice none 0 0, .slice none 0 0, .slice none 0 0] 30)); have ID := Lib.hid (BInv.start nilH w3 30); clear yA0 yA1 yA2 yA3 yA4 yA5 yA6; clear yB0 yB1 yB2 yB3 yB4 yB5 yB6; have yA0 := IA.out.c0; have yA1 := IA.out.c1; have yA2 := IA.out.c2; have yA3 := IA.out.c3; have yA4 := IA.out.c4; have yA5 := IA.out.c5; have yA6 := IA.out.c6; have yB0 := IB.out.c0; have yB1 := IB.out.c1; have yB2 := IB.out.c2; have yB3 := IB.out.c3; have yB4 := IB.out.c4; have yB5 := IB.out.c5; have yB6 := IB.out.c6; clear hb; clear T2)
    | (go_at_call 12; have T2 := T1; refine (small_any g b _ (HB.out.at IA.out.b)).mono ?_; rintro e w2 ⟨rfl, hb⟩; replace IA := Lib.hid (IA.out.below hb); replace IB := Lib.hid (IB.out.below hb); rw [SMB.out]; clear yA0 yA1 yA2 yA3 yA4 yA5 yA6; clear yB0 yB1 yB2 yB3 yB4 yB5 yB6; have yA0 := IA.out.c0; have yA1 := IA.out.c1; have yA2 := IA.out.c2; have yA3 := IA.out.c3; have yA4 := IA.out.c4; have yA5 := IA.out.c5; have yA6 := IA.out.c6; have yB0 := IB.out.c0; have yB1 := IB.out.c1; have yB2 := IB.out.c2; have yB3 := IB.out.c3; have yB4 := IB.out.c4; have yB5 := IB.out.c5; have yB6 := IB.out.c6; clear hb; clear T1)
    | (go_at_call 12; have T1 := T0; refine (small_any h a _ (HA.out.at IA.out.b)).mono ?_; rintro e w1 ⟨rfl, hb⟩; replace IA := Lib.hid (IA.out.below hb); replace IB := Lib.hid (IB.out.below hb); rw [SMA.out]; clear yA0 yA1 yA2 yA3 yA4 yA5 yA6; clear yB0 yB1 yB2 yB3 yB4 yB5 yB6; have yA0 := IA.out.c0; have yA1 := IA.out.c1; have yA2 := IA.out.c2; have yA3 := IA.out.c3; have yA4 := IA.out.c4; have yA5 := IA.out.c5; have yA6 := IA.out.c6; have yB0 := IB.out.c0; have yB1 := IB.out.c1; have yB2 := IB.out.c2; have yB3 := IB.out.c3; have yB4 := IB.out.c4; have yB5 := IB.out.c5; have yB6 := IB.out.c6; clear hb; clear T0))
  go_ret
  exact ⟨rfl, IA.out.b⟩
set_option maxHeartbeats 8000000 in
theorem CodeJoins_bad1 (h g : CodeH) (a b : CodeD) (w : World) (Ha : CodeAt w w.heap.size h a) (Hb : CodeAt w w.heap.size g b) (hv : Vars w.heap.size w) (sa : smallB a = true) (sb : smallB b = true) (fa : fineB a (largeB h) = true) (fb : fineB b (largeB g) = false) : Calls Tryz.prog 4 #[.agg #[.slice h.i.a h.i.n h.i.c, .slice h.p.a h.p.n h.p.c, .slice h.t.a h.t.n h.t.c, .slice h.s.a h.s.n h.s.c, .slice h.g.a h.g.n h.g.c, .slice h.r.a h.r.n h.r.c, .slice h.o.a h.o.n h.o.c], .agg #[.slice g.i.a g.i.n g.i.c, .slice g.p.a g.p.n g.p.c, .slice g.t.a g.t.n g.t.c, .slice g.s.a g.s.n g.s.c, .slice g.g.a g.g.n g.g.c, .slice g.r.a g.r.n g.r.c, .slice g.o.a g.o.n g.o.c]] w fun e w' => e = .returned (.bool true) ∧ Below w.heap.size w w' := by
  have SMA := Lib.hid sa
  have SMB := Lib.hid sb
  have HFA := Lib.hid fa
  have HFB := Lib.hid fb
  have HFAB : Hid ((fineB a (largeB h) && fineB b (largeB g)) = false) := Lib.hid (by rw [fa, fb]; rfl)
  clear sa sb fa fb
  have HA := Lib.hid Ha
  have HB := Lib.hid Hb
  have HV := Lib.hid hv
  have IA := Lib.hid ((BInv.start h w 30).alloc (.cells #[.slice g.i.a g.i.n g.i.c, .slice g.p.a g.p.n g.p.c, .slice g.t.a g.t.n g.t.c, .slice g.s.a g.s.n g.s.c, .slice g.g.a g.g.n g.g.c, .slice g.r.a g.r.n g.r.c, .slice g.o.a g.o.n g.o.c] 30))
  have IB0 := BInv.start g (w.alloc (.cells #[.slice h.i.a h.i.n h.i.c, .slice h.p.a h.p.n h.p.c, .slice h.t.a h.t.n h.t.c, .slice h.s.a h.s.n h.s.c, .slice h.g.a h.g.n h.g.c, .slice h.r.a h.r.n h.r.c, .slice h.o.a h.o.n h.o.c] 30)) 30
  rw [World.size_alloc] at IB0
  have IB := Lib.hid IB0
  have T0 := trivial
  clear IB0 hv Ha Hb
  have yA0 := IA.out.c0; have yA1 := IA.out.c1; have yA2 := IA.out.c2; have yA3 := IA.out.c3; have yA4 := IA.out.c4; have yA5 := IA.out.c5; have yA6 := IA.out.c6
  have yB0 := IB.out.c0; have yB1 := IB.out.c1; have yB2 := IB.out.c2; have yB3 := IB.out.c3; have yB4 := IB.out.c4; have yB5 := IB.out.c5; have yB6 := IB.out.c6
  go_enter Tryz.func4, Tryz.ntmps4
  go_wp2_with (first
    | (go_at_call 17; have T7 := T6; refine (rSame_eq nilH nilH nilD nilD _ (nil_at _) (nil_at _) rfl).mono ?_; rintro e w7 ⟨rfl, hb⟩; replace IA := Lib.hid (IA.out.below hb); replace IB := Lib.hid (IB.out.below hb); replace ID := Lib.hid (ID.out.below hb); clear yD0 yD1 yD2 yD3 yD4 yD5 yD6; clear hb; clear T6)
    | (go_at_call 13; have T6 := T5; refine (sanity_ok _ (HV.out.at IA.out.b IA.out.b.size)).mono ?_; rintro e w6 ⟨rfl, hb⟩; replace IA := Lib.hid (IA.out.below hb); replace IB := Lib.hid (IB.out.below hb); replace ID := Lib.hid (ID.out.below hb); clear yD0 yD1 yD2 yD3 yD4 yD5 yD6; have yD0 := ID.out.c0; have yD1 := ID.out.c1; have yD2 := ID.out.c2; have yD3 := ID.out.c3; have yD4 := ID.out.c4; have yD5 := ID.out.c5; have yD6 := ID.out.c6; clear hb; clear T5)
    | (go_at_call 19; have T5 := T4; refine (rValid_any g b _ (HB.out.at IA.out.b)).mono ?_; rintro e w5 ⟨rfl, hb⟩; replace IA := Lib.hid (IA.out.below hb); replace IB := Lib.hid (IB.out.below hb); replace ID := Lib.hid (ID.out.below hb); rw [HFB.out]; clear yB0 yB1 yB2 yB3 yB4 yB5 yB6; clear yD0 yD1 yD2 yD3 yD4 yD5 yD6; have yD0 := ID.out.c0; have yD1 := ID.out.c1; have yD2 := ID.out.c2; have yD3 := ID.out.c3; have yD4 := ID.out.c4; have yD5 := ID.out.c5; have yD6 := ID.out.c6; clear hb; clear T4)
    | (go_at_call 19; have T4 := T3; refine (rValid_any h a _ (HA.out.at IA.out.b)).mono ?_; rintro e w4 ⟨rfl, hb⟩; replace IA := Lib.hid (IA.out.below hb); replace IB := Lib.hid (IB.out.below hb); replace ID := Lib.hid (ID.out.below hb); rw [HFA.out]; clear yA0 yA1 yA2 yA3 yA4 yA5 yA6; clear yB0 yB1 yB2 yB3 yB4 yB5 yB6; have yB0 := IB.out.c0; have yB1 := IB.out.c1; have yB2 := IB.out.c2; have yB3 := IB.out.c3; have yB4 := IB.out.c4; have yB5 := IB.out.c5; have yB6 := IB.out.c6; have yD0 := ID.out.c0; have yD1 := ID.out.c1; have yD2 := ID.out.c2; have yD3 := ID.out.c3; have yD4 := ID.out.c4; have yD5 := ID.out.c5; have yD6 := ID.out.c6; clear hb; clear T3)
    | (go_at_call 18; have T3 := T2; refine (Join_bad h g a b _ (HA.out.at IA.out.b) (HB.out.at IA.out.b) HFAB.out).mono ?_; rintro e w3 ⟨rfl, hb⟩; replace IA := Lib.hid ((IA.out.below hb).alloc (.cells #[.slice none 0 0, .slice none 0 0, .slice none 0 0, .slice none 0 0, .slice none 0 0, .slice none 0 0, .slice none 0 0] 30)); replace IB := Lib.hid ((IB.out.below hb).alloc (.cells #[.slice none 0 0, .slice none 0 0, .slice none 0 0, .slice none 0 0, .slice none 0 0, .slice none 0 0, .slice none 0 0] 30)); have ID := Lib.hid (BInv.start nilH w3 30); clear yA0 yA1 yA2 yA3 yA4 yA5 yA6; clear yB0 yB1 yB2 yB3 yB4 yB5 yB6; have yA0 := IA.out.c0; have yA1 := IA.out.c1; have yA2 := IA.out.c2; have yA3 := IA.out.c3; have yA4 := IA.out.c4; have yA5 := IA.out.c5; have yA6 := IA.out.c6; have yB0 := IB.out.c0; have yB1 := IB.out.c1; have yB2 := IB.out.c2; have yB3 := IB.out.c3; have yB4 := IB.out.c4; have yB5 := IB.out.c5; have yB6 := IB.out.c6; clear hb; clear T2)
    | (go_at_call 12; have T2 := T1; refine (small_any g b _ (HB.out.at IA.out.b)).mono ?_; rintro e w2 ⟨rfl, hb⟩; replace IA := Lib.hid (IA.out.below hb); replace IB := Lib.hid (IB.out.below hb); rw [SMB.out]; clear yA0 yA1 yA2 yA3 yA4 yA5 yA6; clear yB0 yB1 yB2 yB3 yB4 yB5 yB6; have yA0 := IA.out.c0; have yA1 := IA.out.c1; have yA2 := IA.out.c2; have yA3 := IA.out.c3; have yA4 := IA.out.c4; have yA5 := IA.out.c5; have yA6 := IA.out.c6; have yB0 := IB.out.c0; have yB1 := IB.out.c1; have yB2 := IB.out.c2; have yB3 := IB.out.c3; have yB4 := IB.out.c4; have yB5 := IB.out.c5; have yB6 := IB.out.c6; clear hb; clear T1)
    | (go_at_call 12; have T1 := T0; refine (small_any h a _ (HA.out.at IA.out.b)).mono ?_; rintro e w1 ⟨rfl, hb⟩; replace IA := Lib.hid (IA.out.below hb); replace IB := Lib.hid (IB.out.below hb); rw [SMA.out]; clear yA0 yA1 yA2 yA3 yA4 yA5 yA6; clear yB0 yB1 yB2 yB3 yB4 yB5 yB6; have yA0 := IA.out.c0; have yA1 := IA.out.c1; have yA2 := IA.out.c2; have yA3 := IA.out.c3; have yA4 := IA.out.c4; have yA5 := IA.out.c5; have yA6 := IA.out.c6; have yB0 := IB.out.c0; have yB1 := IB.out.c1; have yB2 := IB.out.c2; have yB3 := IB.out.c3; have yB4 := IB.out.c4; have yB5 := IB.out.c5; have yB6 := IB.out.c6; clear hb; clear T0))
  go_ret
  exact ⟨rfl, IA.out.b⟩
theorem joined_yes {h : CodeH} {a b : CodeD} {w w' : World} {e : Ending} (hl : largeD (joinD h a b) = false) (hJ : JoinPost h a b w e w') :
    ∃ z : CodeH, e = .returned (.tuple #[z.v, .int .i64 0]) ∧ CodeAt w' w'.heap.size z (joinD h a b) ∧ Below w.heap.size w w' := by
  obtain ⟨hb, ⟨h1, _⟩ | ⟨_, z, he, hz⟩⟩ := hJ
  · rw [hl] at h1; cases h1
  · exact ⟨z, he, hz, hb⟩
set_option maxHeartbeats 8000000 in
theorem CodeJoins_good (h g : CodeH) (a b : CodeD) (w : World) (Ha : CodeAt w w.heap.size h a) (Hb : CodeAt w w.heap.size g b) (hv : Vars w.heap.size w) (sa : smallB a = true) (sb : smallB b = true) (fa : fineB a (largeB h) = true) (fb : fineB b (largeB g) = true) : Calls Tryz.prog 4 #[.agg #[.slice h.i.a h.i.n h.i.c, .slice h.p.a h.p.n h.p.c, .slice h.t.a h.t.n h.t.c, .slice h.s.a h.s.n h.s.c, .slice h.g.a h.g.n h.g.c, .slice h.r.a h.r.n h.r.c, .slice h.o.a h.o.n h.o.c], .agg #[.slice g.i.a g.i.n g.i.c, .slice g.p.a g.p.n g.p.c, .slice g.t.a g.t.n g.t.c, .slice g.s.a g.s.n g.s.c, .slice g.g.a g.g.n g.g.c, .slice g.r.a g.r.n g.r.c, .slice g.o.a g.o.n g.o.c]] w fun e w' => e = .returned (.bool true) ∧ Below w.heap.size w w' := by
  have SMA := Lib.hid sa
  have SMB := Lib.hid sb
  have HFA := Lib.hid fa
  have HFB := Lib.hid fb
  have HLD : Hid (largeD (joinD h a b) = false) := Lib.hid (largeD_small sa sb (by
    obtain ⟨la0, _⟩ := fine_well fa
    obtain ⟨na0, _⟩ := large_sizes la0
    have := Ha.ni.1
    omega))
  clear sa sb fa fb
  have HA := Lib.hid Ha
  have HB := Lib.hid Hb
  have HV := Lib.hid hv
  have IA := Lib.hid ((BInv.start h w 30).alloc (.cells #[.slice g.i.a g.i.n g.i.c, .slice g.p.a g.p.n g.p.c, .slice g.t.a g.t.n g.t.c, .slice g.s.a g.s.n g.s.c, .slice g.g.a g.g.n g.g.c, .slice g.r.a g.r.n g.r.c, .slice g.o.a g.o.n g.o.c] 30))
  have IB0 := BInv.start g (w.alloc (.cells #[.slice h.i.a h.i.n h.i.c, .slice h.p.a h.p.n h.p.c, .slice h.t.a h.t.n h.t.c, .slice h.s.a h.s.n h.s.c, .slice h.g.a h.g.n h.g.c, .slice h.r.a h.r.n h.r.c, .slice h.o.a h.o.n h.o.c] 30)) 30
  rw [World.size_alloc] at IB0
  have IB := Lib.hid IB0
  have T0 := trivial
  clear IB0 hv Ha Hb
  have yA0 := IA.out.c0; have yA1 := IA.out.c1; have yA2 := IA.out.c2; have yA3 := IA.out.c3; have yA4 := IA.out.c4; have yA5 := IA.out.c5; have yA6 := IA.out.c6
  have yB0 := IB.out.c0; have yB1 := IB.out.c1; have yB2 := IB.out.c2; have yB3 := IB.out.c3; have yB4 := IB.out.c4; have yB5 := IB.out.c5; have yB6 := IB.out.c6
  go_enter Tryz.func4, Tryz.ntmps4
  go_wp2_with (first
    | (go_at_call 17; have T8 := T7; refine (rSame_eq d u _ _ _ (HD.out.at ID.out.b) (HU.out.at BU.out) rfl).mono ?_; rintro e w8 ⟨rfl, hb⟩; replace IA := Lib.hid (IA.out.below hb); replace IB := Lib.hid (IB.out.below hb); replace ID := Lib.hid (ID.out.below hb); clear yD0 yD1 yD2 yD3 yD4 yD5 yD6; clear hb; clear T7)
    | (go_at_call 13; have T7 := T6; refine (sanity_ok _ (HV.out.at IA.out.b IA.out.b.size)).mono ?_; rintro e w7 ⟨rfl, hb⟩; replace IA := Lib.hid (IA.out.below hb); replace IB := Lib.hid (IB.out.below hb); replace ID := Lib.hid (ID.out.below hb); replace RU := Lib.hid ((hb.block _ (Array.getElem?_eq_some_iff.1 RU.out).1).trans RU.out); replace BU := Lib.hid (BU.out.trans (hb.mono BU.out.size)); have yD0 := ID.out.c0; have yD1 := ID.out.c1; have yD2 := ID.out.c2; have yD3 := ID.out.c3; have yD4 := ID.out.c4; have yD5 := ID.out.c5; have yD6 := ID.out.c6; have u0 : w7.cell? ⟨w6.heap.size, 0, none⟩ = some (.slice u.i.a u.i.n u.i.c) := cell_of_row _ _ 0 _ _ _ RU.out; have u1 : w7.cell? ⟨w6.heap.size, 1, none⟩ = some (.slice u.p.a u.p.n u.p.c) := cell_of_row _ _ 1 _ _ _ RU.out; have u2 : w7.cell? ⟨w6.heap.size, 2, none⟩ = some (.slice u.t.a u.t.n u.t.c) := cell_of_row _ _ 2 _ _ _ RU.out; have u3 : w7.cell? ⟨w6.heap.size, 3, none⟩ = some (.slice u.s.a u.s.n u.s.c) := cell_of_row _ _ 3 _ _ _ RU.out; have u4 : w7.cell? ⟨w6.heap.size, 4, none⟩ = some (.slice u.g.a u.g.n u.g.c) := cell_of_row _ _ 4 _ _ _ RU.out; have u5 : w7.cell? ⟨w6.heap.size, 5, none⟩ = some (.slice u.r.a u.r.n u.r.c) := cell_of_row _ _ 5 _ _ _ RU.out; have u6 : w7.cell? ⟨w6.heap.size, 6, none⟩ = some (.slice u.o.a u.o.n u.o.c) := cell_of_row _ _ 6 _ _ _ RU.out; have u7 : w7.cell? ⟨w6.heap.size, 7, none⟩ = some (.int .i64 0) := cell_of_row _ _ 7 _ _ _ RU.out; clear hb; clear T6)
    | (go_at_call 20; have T6 := T5; refine (rJoin_ok h g a b _ (HA.out.at IA.out.b) (HB.out.at IA.out.b) HFA.out HFB.out HLD.out).mono ?_; rintro e w6 ⟨u, rfl, hz, hb⟩; have HU := Lib.hid hz; replace IA := Lib.hid ((IA.out.below hb).alloc (.cells #[.slice u.i.a u.i.n u.i.c, .slice u.p.a u.p.n u.p.c, .slice u.t.a u.t.n u.t.c, .slice u.s.a u.s.n u.s.c, .slice u.g.a u.g.n u.g.c, .slice u.r.a u.r.n u.r.c, .slice u.o.a u.o.n u.o.c, .int .i64 0] 40)); replace IB := Lib.hid ((IB.out.below hb).alloc (.cells #[.slice u.i.a u.i.n u.i.c, .slice u.p.a u.p.n u.p.c, .slice u.t.a u.t.n u.t.c, .slice u.s.a u.s.n u.s.c, .slice u.g.a u.g.n u.g.c, .slice u.r.a u.r.n u.r.c, .slice u.o.a u.o.n u.o.c, .int .i64 0] 40)); replace ID := Lib.hid ((ID.out.below hb).alloc (.cells #[.slice u.i.a u.i.n u.i.c, .slice u.p.a u.p.n u.p.c, .slice u.t.a u.t.n u.t.c, .slice u.s.a u.s.n u.s.c, .slice u.g.a u.g.n u.g.c, .slice u.r.a u.r.n u.r.c, .slice u.o.a u.o.n u.o.c, .int .i64 0] 40)); have RU := Lib.hid (heap_alloc_new w6 (.cells #[.slice u.i.a u.i.n u.i.c, .slice u.p.a u.p.n u.p.c, .slice u.t.a u.t.n u.t.c, .slice u.s.a u.s.n u.s.c, .slice u.g.a u.g.n u.g.c, .slice u.r.a u.r.n u.r.c, .slice u.o.a u.o.n u.o.c, .int .i64 0] 40)); have BU := Lib.hid ((Below.refl w6.heap.size w6).alloc (Nat.le_refl _) (.cells #[.slice u.i.a u.i.n u.i.c, .slice u.p.a u.p.n u.p.c, .slice u.t.a u.t.n u.t.c, .slice u.s.a u.s.n u.s.c, .slice u.g.a u.g.n u.g.c, .slice u.r.a u.r.n u.r.c, .slice u.o.a u.o.n u.o.c, .int .i64 0] 40)); clear hb hz; clear yA0 yA1 yA2 yA3 yA4 yA5 yA6; clear yB0 yB1 yB2 yB3 yB4 yB5 yB6; clear T5)
    | (go_at_call 19; have T5 := T4; refine (rValid_any g b _ (HB.out.at IA.out.b)).mono ?_; rintro e w5 ⟨rfl, hb⟩; replace IA := Lib.hid (IA.out.below hb); replace IB := Lib.hid (IB.out.below hb); replace ID := Lib.hid (ID.out.below hb); rw [HFB.out]; clear yA0 yA1 yA2 yA3 yA4 yA5 yA6; clear yB0 yB1 yB2 yB3 yB4 yB5 yB6; have yA0 := IA.out.c0; have yA1 := IA.out.c1; have yA2 := IA.out.c2; have yA3 := IA.out.c3; have yA4 := IA.out.c4; have yA5 := IA.out.c5; have yA6 := IA.out.c6; have yB0 := IB.out.c0; have yB1 := IB.out.c1; have yB2 := IB.out.c2; have yB3 := IB.out.c3; have yB4 := IB.out.c4; have yB5 := IB.out.c5; have yB6 := IB.out.c6; clear hb; clear T4)
    | (go_at_call 19; have T4 := T3; refine (rValid_any h a _ (HA.out.at IA.out.b)).mono ?_; rintro e w4 ⟨rfl, hb⟩; replace IA := Lib.hid (IA.out.below hb); replace IB := Lib.hid (IB.out.below hb); replace ID := Lib.hid (ID.out.below hb); rw [HFA.out]; clear yA0 yA1 yA2 yA3 yA4 yA5 yA6; clear yB0 yB1 yB2 yB3 yB4 yB5 yB6; have yA0 := IA.out.c0; have yA1 := IA.out.c1; have yA2 := IA.out.c2; have yA3 := IA.out.c3; have yA4 := IA.out.c4; have yA5 := IA.out.c5; have yA6 := IA.out.c6; have yB0 := IB.out.c0; have yB1 := IB.out.c1; have yB2 := IB.out.c2; have yB3 := IB.out.c3; have yB4 := IB.out.c4; have yB5 := IB.out.c5; have yB6 := IB.out.c6; clear hb; clear T3)
    | (go_at_call 18; have T3 := T2; refine (Join_ok h g a b _ (HA.out.at IA.out.b) (HB.out.at IA.out.b) HFA.out HFB.out).mono ?_; rintro e w3 hJ; obtain ⟨d, he, hz, hb⟩ := joined_yes HLD.out hJ; subst he; unfold CodeH.v; have HD := Lib.hid hz; replace IA := Lib.hid ((IA.out.below hb).alloc (.cells #[.slice d.i.a d.i.n d.i.c, .slice d.p.a d.p.n d.p.c, .slice d.t.a d.t.n d.t.c, .slice d.s.a d.s.n d.s.c, .slice d.g.a d.g.n d.g.c, .slice d.r.a d.r.n d.r.c, .slice d.o.a d.o.n d.o.c] 30)); replace IB := Lib.hid ((IB.out.below hb).alloc (.cells #[.slice d.i.a d.i.n d.i.c, .slice d.p.a d.p.n d.p.c, .slice d.t.a d.t.n d.t.c, .slice d.s.a d.s.n d.s.c, .slice d.g.a d.g.n d.g.c, .slice d.r.a d.r.n d.r.c, .slice d.o.a d.o.n d.o.c] 30)); have ID := Lib.hid (BInv.start d w3 30); clear yA0 yA1 yA2 yA3 yA4 yA5 yA6; clear yB0 yB1 yB2 yB3 yB4 yB5 yB6; have yA0 := IA.out.c0; have yA1 := IA.out.c1; have yA2 := IA.out.c2; have yA3 := IA.out.c3; have yA4 := IA.out.c4; have yA5 := IA.out.c5; have yA6 := IA.out.c6; have yB0 := IB.out.c0; have yB1 := IB.out.c1; have yB2 := IB.out.c2; have yB3 := IB.out.c3; have yB4 := IB.out.c4; have yB5 := IB.out.c5; have yB6 := IB.out.c6; clear hb hz hJ; clear T2)
    | (go_at_call 12; have T2 := T1; refine (small_any g b _ (HB.out.at IA.out.b)).mono ?_; rintro e w2 ⟨rfl, hb⟩; replace IA := Lib.hid (IA.out.below hb); replace IB := Lib.hid (IB.out.below hb); rw [SMB.out]; clear yA0 yA1 yA2 yA3 yA4 yA5 yA6; clear yB0 yB1 yB2 yB3 yB4 yB5 yB6; have yA0 := IA.out.c0; have yA1 := IA.out.c1; have yA2 := IA.out.c2; have yA3 := IA.out.c3; have yA4 := IA.out.c4; have yA5 := IA.out.c5; have yA6 := IA.out.c6; have yB0 := IB.out.c0; have yB1 := IB.out.c1; have yB2 := IB.out.c2; have yB3 := IB.out.c3; have yB4 := IB.out.c4; have yB5 := IB.out.c5; have yB6 := IB.out.c6; clear hb; clear T1)
    | (go_at_call 12; have T1 := T0; refine (small_any h a _ (HA.out.at IA.out.b)).mono ?_; rintro e w1 ⟨rfl, hb⟩; replace IA := Lib.hid (IA.out.below hb); replace IB := Lib.hid (IB.out.below hb); rw [SMA.out]; clear yA0 yA1 yA2 yA3 yA4 yA5 yA6; clear yB0 yB1 yB2 yB3 yB4 yB5 yB6; have yA0 := IA.out.c0; have yA1 := IA.out.c1; have yA2 := IA.out.c2; have yA3 := IA.out.c3; have yA4 := IA.out.c4; have yA5 := IA.out.c5; have yA6 := IA.out.c6; have yB0 := IB.out.c0; have yB1 := IB.out.c1; have yB2 := IB.out.c2; have yB3 := IB.out.c3; have yB4 := IB.out.c4; have yB5 := IB.out.c5; have yB6 := IB.out.c6; clear hb; clear T0))
  go_ret
  exact ⟨rfl, IA.out.b⟩
theorem CodeJoins_any (h g : CodeH) (a b : CodeD) (w : World) (Ha : CodeAt w w.heap.size h a) (Hb : CodeAt w w.heap.size g b) (hv : Vars w.heap.size w) : Calls Tryz.prog 4 #[.agg #[.slice h.i.a h.i.n h.i.c, .slice h.p.a h.p.n h.p.c, .slice h.t.a h.t.n h.t.c, .slice h.s.a h.s.n h.s.c, .slice h.g.a h.g.n h.g.c, .slice h.r.a h.r.n h.r.c, .slice h.o.a h.o.n h.o.c], .agg #[.slice g.i.a g.i.n g.i.c, .slice g.p.a g.p.n g.p.c, .slice g.t.a g.t.n g.t.c, .slice g.s.a g.s.n g.s.c, .slice g.g.a g.g.n g.g.c, .slice g.r.a g.r.n g.r.c, .slice g.o.a g.o.n g.o.c]] w fun e w' => e = .returned (.bool true) ∧ Below w.heap.size w w' := by
  cases sa : smallB a with
  | false => exact CodeJoins_large h g a b w Ha Hb hv (.inl sa)
  | true =>
  cases sb : smallB b with
  | false => exact CodeJoins_large h g a b w Ha Hb hv (.inr ⟨sa, sb⟩)
  | true =>
  cases fa : fineB a (largeB h) with
  | false => exact CodeJoins_bad0 h g a b w Ha Hb hv sa sb fa
  | true =>
  cases fb : fineB b (largeB g) with
  | false => exact CodeJoins_bad1 h g a b w Ha Hb hv sa sb fa fb
  | true => exact CodeJoins_good h g a b w Ha Hb hv sa sb fa fb
end Go.Proofs.YtmfnholhhakgaaaGreatDoor
