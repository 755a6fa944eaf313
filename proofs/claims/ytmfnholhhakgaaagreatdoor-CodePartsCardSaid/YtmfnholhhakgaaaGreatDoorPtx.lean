/- CodeParts: its short ways: codes that are not small, codes that Join does not take. -/
import Derived.Test.YtmfnholhhakgaaaGreatDoorPtq
namespace Go.Proofs.YtmfnholhhakgaaaGreatDoor
open Go Go.Proofs Go.RowKit Go.Sort
set_option maxRecDepth 100000
set_option maxHeartbeats 8000000 in
theorem CodeParts_large (h g k : CodeH) (a b c : CodeD) (n : Int) (w : World) (Ha : CodeAt w w.heap.size h a) (Hb : CodeAt w w.heap.size g b) (Hc : CodeAt w w.heap.size k c) (hv : Vars w.heap.size w)
    (hbad : smallB a = false ∨ (smallB a = true ∧ smallB b = false) ∨ (smallB a = true ∧ smallB b = true ∧ smallB c = false) ∨ (smallB a = true ∧ smallB b = true ∧ smallB c = true ∧ 150 < h.i.n) ∨ (smallB a = true ∧ smallB b = true ∧ smallB c = true ∧ h.i.n ≤ 150 ∧ 150 < g.i.n) ∨ (smallB a = true ∧ smallB b = true ∧ smallB c = true ∧ h.i.n ≤ 150 ∧ g.i.n ≤ 150 ∧ 150 < k.i.n)) :
    Calls Tryz.prog 10 #[.agg #[.slice h.i.a h.i.n h.i.c, .slice h.p.a h.p.n h.p.c, .slice h.t.a h.t.n h.t.c, .slice h.s.a h.s.n h.s.c, .slice h.g.a h.g.n h.g.c, .slice h.r.a h.r.n h.r.c, .slice h.o.a h.o.n h.o.c], .agg #[.slice g.i.a g.i.n g.i.c, .slice g.p.a g.p.n g.p.c, .slice g.t.a g.t.n g.t.c, .slice g.s.a g.s.n g.s.c, .slice g.g.a g.g.n g.g.c, .slice g.r.a g.r.n g.r.c, .slice g.o.a g.o.n g.o.c], .agg #[.slice k.i.a k.i.n k.i.c, .slice k.p.a k.p.n k.p.c, .slice k.t.a k.t.n k.t.c, .slice k.s.a k.s.n k.s.c, .slice k.g.a k.g.n k.g.c, .slice k.r.a k.r.n k.r.c, .slice k.o.a k.o.n k.o.c], .int .i64 n] w fun e w' => e = .returned (.bool true) ∧ Below w.heap.size w w' := by
  have HA := Lib.hid Ha
  have HB := Lib.hid Hb
  have HC := Lib.hid Hc
  have HV := Lib.hid hv
  have IA := Lib.hid (BInv.start h w 30)
  have IB0 := BInv.start g (w.alloc (.cells #[.slice h.i.a h.i.n h.i.c, .slice h.p.a h.p.n h.p.c, .slice h.t.a h.t.n h.t.c, .slice h.s.a h.s.n h.s.c, .slice h.g.a h.g.n h.g.c, .slice h.r.a h.r.n h.r.c, .slice h.o.a h.o.n h.o.c] 30)) 30
  have IC0 := BInv.start k ((w.alloc (.cells #[.slice h.i.a h.i.n h.i.c, .slice h.p.a h.p.n h.p.c, .slice h.t.a h.t.n h.t.c, .slice h.s.a h.s.n h.s.c, .slice h.g.a h.g.n h.g.c, .slice h.r.a h.r.n h.r.c, .slice h.o.a h.o.n h.o.c] 30)).alloc (.cells #[.slice g.i.a g.i.n g.i.c, .slice g.p.a g.p.n g.p.c, .slice g.t.a g.t.n g.t.c, .slice g.s.a g.s.n g.s.c, .slice g.g.a g.g.n g.g.c, .slice g.r.a g.r.n g.r.c, .slice g.o.a g.o.n g.o.c] 30)) 30
  rw [World.size_alloc] at IB0 IC0
  rw [World.size_alloc] at IC0
  replace IA := Lib.hid ((IA.out.alloc (.cells #[.slice g.i.a g.i.n g.i.c, .slice g.p.a g.p.n g.p.c, .slice g.t.a g.t.n g.t.c, .slice g.s.a g.s.n g.s.c, .slice g.g.a g.g.n g.g.c, .slice g.r.a g.r.n g.r.c, .slice g.o.a g.o.n g.o.c] 30)).alloc (.cells #[.slice k.i.a k.i.n k.i.c, .slice k.p.a k.p.n k.p.c, .slice k.t.a k.t.n k.t.c, .slice k.s.a k.s.n k.s.c, .slice k.g.a k.g.n k.g.c, .slice k.r.a k.r.n k.r.c, .slice k.o.a k.o.n k.o.c] 30))
  have IB := Lib.hid (IB0.alloc (.cells #[.slice k.i.a k.i.n k.i.c, .slice k.p.a k.p.n k.p.c, .slice k.t.a k.t.n k.t.c, .slice k.s.a k.s.n k.s.c, .slice k.g.a k.g.n k.g.c, .slice k.r.a k.r.n k.r.c, .slice k.o.a k.o.n k.o.c] 30))
  have IC := Lib.hid IC0
  have T0 := trivial
  clear IB0 IC0 hv Ha Hb Hc
  have yA0 := IA.out.c0; have yA1 := IA.out.c1; have yA2 := IA.out.c2; have yA3 := IA.out.c3; have yA4 := IA.out.c4; have yA5 := IA.out.c5; have yA6 := IA.out.c6
  have yB0 := IB.out.c0; have yB1 := IB.out.c1; have yB2 := IB.out.c2; have yB3 := IB.out.c3; have yB4 := IB.out.c4; have yB5 := IB.out.c5; have yB6 := IB.out.c6
  have yC0 := IC.out.c0; have yC1 := IC.out.c1; have yC2 := IC.out.c2; have yC3 := IC.out.c3; have yC4 := IC.out.c4; have yC5 := IC.out.c5; have yC6 := IC.out.c6
  rcases hbad with sa | ⟨sa, sb⟩ | ⟨sa, sb, sc⟩ | ⟨sa, sb, sc, la⟩ | ⟨sa, sb, sc, la, lb⟩ | ⟨sa, sb, sc, la, lb, lc⟩
  all_goals
    have SMA := Lib.hid sa
    try have SMB := Lib.hid sb
    try have SMC := Lib.hid sc
    clear sa
    try clear sb
    try clear sc
    go_enter Tryz.func10, Tryz.ntmps10
    go_wp2_with (first
      | (go_at_call 12; have T3 := T2; refine (small_any k c _ (HC.out.at IA.out.b)).mono ?_; rintro e w3 ⟨rfl, hb⟩; replace IA := Lib.hid (IA.out.below hb); replace IB := Lib.hid (IB.out.below hb); replace IC := Lib.hid (IC.out.below hb); rw [SMC.out]; clear yA0 yA1 yA2 yA3 yA4 yA5 yA6; clear yB0 yB1 yB2 yB3 yB4 yB5 yB6; clear yC0 yC1 yC2 yC3 yC4 yC5 yC6; have yA0 := IA.out.c0; have yA1 := IA.out.c1; have yA2 := IA.out.c2; have yA3 := IA.out.c3; have yA4 := IA.out.c4; have yA5 := IA.out.c5; have yA6 := IA.out.c6; have yB0 := IB.out.c0; have yB1 := IB.out.c1; have yB2 := IB.out.c2; have yB3 := IB.out.c3; have yB4 := IB.out.c4; have yB5 := IB.out.c5; have yB6 := IB.out.c6; have yC0 := IC.out.c0; have yC1 := IC.out.c1; have yC2 := IC.out.c2; have yC3 := IC.out.c3; have yC4 := IC.out.c4; have yC5 := IC.out.c5; have yC6 := IC.out.c6; clear hb; clear T2)
      | (go_at_call 12; have T2 := T1; refine (small_any g b _ (HB.out.at IA.out.b)).mono ?_; rintro e w2 ⟨rfl, hb⟩; replace IA := Lib.hid (IA.out.below hb); replace IB := Lib.hid (IB.out.below hb); replace IC := Lib.hid (IC.out.below hb); rw [SMB.out]; clear yA0 yA1 yA2 yA3 yA4 yA5 yA6; clear yB0 yB1 yB2 yB3 yB4 yB5 yB6; clear yC0 yC1 yC2 yC3 yC4 yC5 yC6; have yA0 := IA.out.c0; have yA1 := IA.out.c1; have yA2 := IA.out.c2; have yA3 := IA.out.c3; have yA4 := IA.out.c4; have yA5 := IA.out.c5; have yA6 := IA.out.c6; have yB0 := IB.out.c0; have yB1 := IB.out.c1; have yB2 := IB.out.c2; have yB3 := IB.out.c3; have yB4 := IB.out.c4; have yB5 := IB.out.c5; have yB6 := IB.out.c6; have yC0 := IC.out.c0; have yC1 := IC.out.c1; have yC2 := IC.out.c2; have yC3 := IC.out.c3; have yC4 := IC.out.c4; have yC5 := IC.out.c5; have yC6 := IC.out.c6; clear hb; clear T1)
      | (go_at_call 12; have T1 := T0; refine (small_any h a _ (HA.out.at IA.out.b)).mono ?_; rintro e w1 ⟨rfl, hb⟩; replace IA := Lib.hid (IA.out.below hb); replace IB := Lib.hid (IB.out.below hb); replace IC := Lib.hid (IC.out.below hb); rw [SMA.out]; clear yA0 yA1 yA2 yA3 yA4 yA5 yA6; clear yB0 yB1 yB2 yB3 yB4 yB5 yB6; clear yC0 yC1 yC2 yC3 yC4 yC5 yC6; have yA0 := IA.out.c0; have yA1 := IA.out.c1; have yA2 := IA.out.c2; have yA3 := IA.out.c3; have yA4 := IA.out.c4; have yA5 := IA.out.c5; have yA6 := IA.out.c6; have yB0 := IB.out.c0; have yB1 := IB.out.c1; have yB2 := IB.out.c2; have yB3 := IB.out.c3; have yB4 := IB.out.c4; have yB5 := IB.out.c5; have yB6 := IB.out.c6; have yC0 := IC.out.c0; have yC1 := IC.out.c1; have yC2 := IC.out.c2; have yC3 := IC.out.c3; have yC4 := IC.out.c4; have yC5 := IC.out.c5; have yC6 := IC.out.c6; clear hb; clear T0)
      | (go_at_call 13; refine (sanity_ok _ (HV.out.at IA.out.b IA.out.b.size)).mono ?_; rintro e w20 ⟨rfl, hb⟩; replace IA := Lib.hid (IA.out.below hb); clear hb))
    go_ret
    exact ⟨rfl, IA.out.b⟩
set_option maxHeartbeats 8000000 in
theorem CodeParts_bad0 (h g k : CodeH) (a b c : CodeD) (n : Int) (w : World) (Ha : CodeAt w w.heap.size h a) (Hb : CodeAt w w.heap.size g b) (Hc : CodeAt w w.heap.size k c) (hv : Vars w.heap.size w)
    (sa : smallB a = true) (sb : smallB b = true) (sc : smallB c = true) (la : h.i.n ≤ 150) (lb : g.i.n ≤ 150) (lc : k.i.n ≤ 150) (fab : (fineB a (largeB h) && fineB b (largeB g)) = false) (fbc : (fineB b (largeB g) && fineB c (largeB k)) = false) :
    Calls Tryz.prog 10 #[.agg #[.slice h.i.a h.i.n h.i.c, .slice h.p.a h.p.n h.p.c, .slice h.t.a h.t.n h.t.c, .slice h.s.a h.s.n h.s.c, .slice h.g.a h.g.n h.g.c, .slice h.r.a h.r.n h.r.c, .slice h.o.a h.o.n h.o.c], .agg #[.slice g.i.a g.i.n g.i.c, .slice g.p.a g.p.n g.p.c, .slice g.t.a g.t.n g.t.c, .slice g.s.a g.s.n g.s.c, .slice g.g.a g.g.n g.g.c, .slice g.r.a g.r.n g.r.c, .slice g.o.a g.o.n g.o.c], .agg #[.slice k.i.a k.i.n k.i.c, .slice k.p.a k.p.n k.p.c, .slice k.t.a k.t.n k.t.c, .slice k.s.a k.s.n k.s.c, .slice k.g.a k.g.n k.g.c, .slice k.r.a k.r.n k.r.c, .slice k.o.a k.o.n k.o.c], .int .i64 n] w fun e w' => e = .returned (.bool true) ∧ Below w.heap.size w w' := by
  have SMA := Lib.hid sa
  have SMB := Lib.hid sb
  have SMC := Lib.hid sc
  have HFAB := Lib.hid fab
  have HFBC := Lib.hid fbc
  clear fbc
  clear sa sb sc fab
  have HA := Lib.hid Ha
  have HB := Lib.hid Hb
  have HC := Lib.hid Hc
  have HV := Lib.hid hv
  have IA := Lib.hid (BInv.start h w 30)
  have IB0 := BInv.start g (w.alloc (.cells #[.slice h.i.a h.i.n h.i.c, .slice h.p.a h.p.n h.p.c, .slice h.t.a h.t.n h.t.c, .slice h.s.a h.s.n h.s.c, .slice h.g.a h.g.n h.g.c, .slice h.r.a h.r.n h.r.c, .slice h.o.a h.o.n h.o.c] 30)) 30
  have IC0 := BInv.start k ((w.alloc (.cells #[.slice h.i.a h.i.n h.i.c, .slice h.p.a h.p.n h.p.c, .slice h.t.a h.t.n h.t.c, .slice h.s.a h.s.n h.s.c, .slice h.g.a h.g.n h.g.c, .slice h.r.a h.r.n h.r.c, .slice h.o.a h.o.n h.o.c] 30)).alloc (.cells #[.slice g.i.a g.i.n g.i.c, .slice g.p.a g.p.n g.p.c, .slice g.t.a g.t.n g.t.c, .slice g.s.a g.s.n g.s.c, .slice g.g.a g.g.n g.g.c, .slice g.r.a g.r.n g.r.c, .slice g.o.a g.o.n g.o.c] 30)) 30
  rw [World.size_alloc] at IB0 IC0
  rw [World.size_alloc] at IC0
  replace IA := Lib.hid ((IA.out.alloc (.cells #[.slice g.i.a g.i.n g.i.c, .slice g.p.a g.p.n g.p.c, .slice g.t.a g.t.n g.t.c, .slice g.s.a g.s.n g.s.c, .slice g.g.a g.g.n g.g.c, .slice g.r.a g.r.n g.r.c, .slice g.o.a g.o.n g.o.c] 30)).alloc (.cells #[.slice k.i.a k.i.n k.i.c, .slice k.p.a k.p.n k.p.c, .slice k.t.a k.t.n k.t.c, .slice k.s.a k.s.n k.s.c, .slice k.g.a k.g.n k.g.c, .slice k.r.a k.r.n k.r.c, .slice k.o.a k.o.n k.o.c] 30))
  have IB := Lib.hid (IB0.alloc (.cells #[.slice k.i.a k.i.n k.i.c, .slice k.p.a k.p.n k.p.c, .slice k.t.a k.t.n k.t.c, .slice k.s.a k.s.n k.s.c, .slice k.g.a k.g.n k.g.c, .slice k.r.a k.r.n k.r.c, .slice k.o.a k.o.n k.o.c] 30))
  have IC := Lib.hid IC0
  have T0 := trivial
  clear IB0 IC0 hv Ha Hb Hc
  have yA0 := IA.out.c0; have yA1 := IA.out.c1; have yA2 := IA.out.c2; have yA3 := IA.out.c3; have yA4 := IA.out.c4; have yA5 := IA.out.c5; have yA6 := IA.out.c6
  have yB0 := IB.out.c0; have yB1 := IB.out.c1; have yB2 := IB.out.c2; have yB3 := IB.out.c3; have yB4 := IB.out.c4; have yB5 := IB.out.c5; have yB6 := IB.out.c6
  have yC0 := IC.out.c0; have yC1 := IC.out.c1; have yC2 := IC.out.c2; have yC3 := IC.out.c3; have yC4 := IC.out.c4; have yC5 := IC.out.c5; have yC6 := IC.out.c6
  go_enter Tryz.func10, Tryz.ntmps10
  go_wp2_with (first
    | (go_at_call 18; have T5 := T4; refine (Join_bad g k b c _ (HB.out.at IA.out.b) (HC.out.at IA.out.b) HFBC.out).mono ?_; rintro e w5 ⟨rfl, hb⟩; replace IA := Lib.hid ((IA.out.below hb).alloc (.cells #[.slice none 0 0, .slice none 0 0, .slice none 0 0, .slice none 0 0, .slice none 0 0, .slice none 0 0, .slice none 0 0] 30)); replace IB := Lib.hid ((IB.out.below hb).alloc (.cells #[.slice none 0 0, .slice none 0 0, .slice none 0 0, .slice none 0 0, .slice none 0 0, .slice none 0 0, .slice none 0 0] 30)); replace IC := Lib.hid ((IC.out.below hb).alloc (.cells #[.slice none 0 0, .slice none 0 0, .slice none 0 0, .slice none 0 0, .slice none 0 0, .slice none 0 0, .slice none 0 0] 30)); clear yB0 yB1 yB2 yB3 yB4 yB5 yB6; clear yC0 yC1 yC2 yC3 yC4 yC5 yC6; clear hb; clear T4)
    | (go_at_call 18; have T4 := T3; refine (Join_bad h g a b _ (HA.out.at IA.out.b) (HB.out.at IA.out.b) HFAB.out).mono ?_; rintro e w4 ⟨rfl, hb⟩; replace IA := Lib.hid ((IA.out.below hb).alloc (.cells #[.slice none 0 0, .slice none 0 0, .slice none 0 0, .slice none 0 0, .slice none 0 0, .slice none 0 0, .slice none 0 0] 30)); replace IB := Lib.hid ((IB.out.below hb).alloc (.cells #[.slice none 0 0, .slice none 0 0, .slice none 0 0, .slice none 0 0, .slice none 0 0, .slice none 0 0, .slice none 0 0] 30)); replace IC := Lib.hid ((IC.out.below hb).alloc (.cells #[.slice none 0 0, .slice none 0 0, .slice none 0 0, .slice none 0 0, .slice none 0 0, .slice none 0 0, .slice none 0 0] 30)); clear yA0 yA1 yA2 yA3 yA4 yA5 yA6; clear yB0 yB1 yB2 yB3 yB4 yB5 yB6; clear yC0 yC1 yC2 yC3 yC4 yC5 yC6; have yB0 := IB.out.c0; have yB1 := IB.out.c1; have yB2 := IB.out.c2; have yB3 := IB.out.c3; have yB4 := IB.out.c4; have yB5 := IB.out.c5; have yB6 := IB.out.c6; have yC0 := IC.out.c0; have yC1 := IC.out.c1; have yC2 := IC.out.c2; have yC3 := IC.out.c3; have yC4 := IC.out.c4; have yC5 := IC.out.c5; have yC6 := IC.out.c6; clear hb; clear T3)
    | (go_at_call 12; have T3 := T2; refine (small_any k c _ (HC.out.at IA.out.b)).mono ?_; rintro e w3 ⟨rfl, hb⟩; replace IA := Lib.hid (IA.out.below hb); replace IB := Lib.hid (IB.out.below hb); replace IC := Lib.hid (IC.out.below hb); rw [SMC.out]; clear yA0 yA1 yA2 yA3 yA4 yA5 yA6; clear yB0 yB1 yB2 yB3 yB4 yB5 yB6; clear yC0 yC1 yC2 yC3 yC4 yC5 yC6; have yA0 := IA.out.c0; have yA1 := IA.out.c1; have yA2 := IA.out.c2; have yA3 := IA.out.c3; have yA4 := IA.out.c4; have yA5 := IA.out.c5; have yA6 := IA.out.c6; have yB0 := IB.out.c0; have yB1 := IB.out.c1; have yB2 := IB.out.c2; have yB3 := IB.out.c3; have yB4 := IB.out.c4; have yB5 := IB.out.c5; have yB6 := IB.out.c6; have yC0 := IC.out.c0; have yC1 := IC.out.c1; have yC2 := IC.out.c2; have yC3 := IC.out.c3; have yC4 := IC.out.c4; have yC5 := IC.out.c5; have yC6 := IC.out.c6; clear hb; clear T2)
    | (go_at_call 12; have T2 := T1; refine (small_any g b _ (HB.out.at IA.out.b)).mono ?_; rintro e w2 ⟨rfl, hb⟩; replace IA := Lib.hid (IA.out.below hb); replace IB := Lib.hid (IB.out.below hb); replace IC := Lib.hid (IC.out.below hb); rw [SMB.out]; clear yA0 yA1 yA2 yA3 yA4 yA5 yA6; clear yB0 yB1 yB2 yB3 yB4 yB5 yB6; clear yC0 yC1 yC2 yC3 yC4 yC5 yC6; have yA0 := IA.out.c0; have yA1 := IA.out.c1; have yA2 := IA.out.c2; have yA3 := IA.out.c3; have yA4 := IA.out.c4; have yA5 := IA.out.c5; have yA6 := IA.out.c6; have yB0 := IB.out.c0; have yB1 := IB.out.c1; have yB2 := IB.out.c2; have yB3 := IB.out.c3; have yB4 := IB.out.c4; have yB5 := IB.out.c5; have yB6 := IB.out.c6; have yC0 := IC.out.c0; have yC1 := IC.out.c1; have yC2 := IC.out.c2; have yC3 := IC.out.c3; have yC4 := IC.out.c4; have yC5 := IC.out.c5; have yC6 := IC.out.c6; clear hb; clear T1)
    | (go_at_call 12; have T1 := T0; refine (small_any h a _ (HA.out.at IA.out.b)).mono ?_; rintro e w1 ⟨rfl, hb⟩; replace IA := Lib.hid (IA.out.below hb); replace IB := Lib.hid (IB.out.below hb); replace IC := Lib.hid (IC.out.below hb); rw [SMA.out]; clear yA0 yA1 yA2 yA3 yA4 yA5 yA6; clear yB0 yB1 yB2 yB3 yB4 yB5 yB6; clear yC0 yC1 yC2 yC3 yC4 yC5 yC6; have yA0 := IA.out.c0; have yA1 := IA.out.c1; have yA2 := IA.out.c2; have yA3 := IA.out.c3; have yA4 := IA.out.c4; have yA5 := IA.out.c5; have yA6 := IA.out.c6; have yB0 := IB.out.c0; have yB1 := IB.out.c1; have yB2 := IB.out.c2; have yB3 := IB.out.c3; have yB4 := IB.out.c4; have yB5 := IB.out.c5; have yB6 := IB.out.c6; have yC0 := IC.out.c0; have yC1 := IC.out.c1; have yC2 := IC.out.c2; have yC3 := IC.out.c3; have yC4 := IC.out.c4; have yC5 := IC.out.c5; have yC6 := IC.out.c6; clear hb; clear T0)
    | (go_at_call 13; refine (sanity_ok _ (HV.out.at IA.out.b IA.out.b.size)).mono ?_; rintro e w20 ⟨rfl, hb⟩; replace IA := Lib.hid (IA.out.below hb); clear hb))
  go_ret
  exact ⟨rfl, IA.out.b⟩
set_option maxHeartbeats 8000000 in
theorem CodeParts_bad1 (h g k : CodeH) (a b c : CodeD) (n : Int) (w : World) (Ha : CodeAt w w.heap.size h a) (Hb : CodeAt w w.heap.size g b) (Hc : CodeAt w w.heap.size k c) (hv : Vars w.heap.size w)
    (sa : smallB a = true) (sb : smallB b = true) (sc : smallB c = true) (la : h.i.n ≤ 150) (lb : g.i.n ≤ 150) (lc : k.i.n ≤ 150) (fab : (fineB a (largeB h) && fineB b (largeB g)) = false) (fb : fineB b (largeB g) = true) (fc : fineB c (largeB k) = true) :
    Calls Tryz.prog 10 #[.agg #[.slice h.i.a h.i.n h.i.c, .slice h.p.a h.p.n h.p.c, .slice h.t.a h.t.n h.t.c, .slice h.s.a h.s.n h.s.c, .slice h.g.a h.g.n h.g.c, .slice h.r.a h.r.n h.r.c, .slice h.o.a h.o.n h.o.c], .agg #[.slice g.i.a g.i.n g.i.c, .slice g.p.a g.p.n g.p.c, .slice g.t.a g.t.n g.t.c, .slice g.s.a g.s.n g.s.c, .slice g.g.a g.g.n g.g.c, .slice g.r.a g.r.n g.r.c, .slice g.o.a g.o.n g.o.c], .agg #[.slice k.i.a k.i.n k.i.c, .slice k.p.a k.p.n k.p.c, .slice k.t.a k.t.n k.t.c, .slice k.s.a k.s.n k.s.c, .slice k.g.a k.g.n k.g.c, .slice k.r.a k.r.n k.r.c, .slice k.o.a k.o.n k.o.c], .int .i64 n] w fun e w' => e = .returned (.bool true) ∧ Below w.heap.size w w' := by
  have SMA := Lib.hid sa
  have SMB := Lib.hid sb
  have SMC := Lib.hid sc
  have HFAB := Lib.hid fab
  have HFB := Lib.hid fb
  have HFC := Lib.hid fc
  have HLE : Hid (largeD (joinD g b c) = false) := Lib.hid (small_join2 g sb sc (by
    obtain ⟨lb0, _⟩ := fine_well fb
    obtain ⟨nb0, _⟩ := large_sizes lb0
    have := Hb.ni.1
    omega))
  clear fb fc
  clear sa sb sc fab
  have HA := Lib.hid Ha
  have HB := Lib.hid Hb
  have HC := Lib.hid Hc
  have HV := Lib.hid hv
  have IA := Lib.hid (BInv.start h w 30)
  have IB0 := BInv.start g (w.alloc (.cells #[.slice h.i.a h.i.n h.i.c, .slice h.p.a h.p.n h.p.c, .slice h.t.a h.t.n h.t.c, .slice h.s.a h.s.n h.s.c, .slice h.g.a h.g.n h.g.c, .slice h.r.a h.r.n h.r.c, .slice h.o.a h.o.n h.o.c] 30)) 30
  have IC0 := BInv.start k ((w.alloc (.cells #[.slice h.i.a h.i.n h.i.c, .slice h.p.a h.p.n h.p.c, .slice h.t.a h.t.n h.t.c, .slice h.s.a h.s.n h.s.c, .slice h.g.a h.g.n h.g.c, .slice h.r.a h.r.n h.r.c, .slice h.o.a h.o.n h.o.c] 30)).alloc (.cells #[.slice g.i.a g.i.n g.i.c, .slice g.p.a g.p.n g.p.c, .slice g.t.a g.t.n g.t.c, .slice g.s.a g.s.n g.s.c, .slice g.g.a g.g.n g.g.c, .slice g.r.a g.r.n g.r.c, .slice g.o.a g.o.n g.o.c] 30)) 30
  rw [World.size_alloc] at IB0 IC0
  rw [World.size_alloc] at IC0
  replace IA := Lib.hid ((IA.out.alloc (.cells #[.slice g.i.a g.i.n g.i.c, .slice g.p.a g.p.n g.p.c, .slice g.t.a g.t.n g.t.c, .slice g.s.a g.s.n g.s.c, .slice g.g.a g.g.n g.g.c, .slice g.r.a g.r.n g.r.c, .slice g.o.a g.o.n g.o.c] 30)).alloc (.cells #[.slice k.i.a k.i.n k.i.c, .slice k.p.a k.p.n k.p.c, .slice k.t.a k.t.n k.t.c, .slice k.s.a k.s.n k.s.c, .slice k.g.a k.g.n k.g.c, .slice k.r.a k.r.n k.r.c, .slice k.o.a k.o.n k.o.c] 30))
  have IB := Lib.hid (IB0.alloc (.cells #[.slice k.i.a k.i.n k.i.c, .slice k.p.a k.p.n k.p.c, .slice k.t.a k.t.n k.t.c, .slice k.s.a k.s.n k.s.c, .slice k.g.a k.g.n k.g.c, .slice k.r.a k.r.n k.r.c, .slice k.o.a k.o.n k.o.c] 30))
  have IC := Lib.hid IC0
  have T0 := trivial
  clear IB0 IC0 hv Ha Hb Hc
  have yA0 := IA.out.c0; have yA1 := IA.out.c1; have yA2 := IA.out.c2; have yA3 := IA.out.c3; have yA4 := IA.out.c4; have yA5 := IA.out.c5; have yA6 := IA.out.c6
  have yB0 := IB.out.c0; have yB1 := IB.out.c1; have yB2 := IB.out.c2; have yB3 := IB.out.c3; have yB4 := IB.out.c4; have yB5 := IB.out.c5; have yB6 := IB.out.c6
  have yC0 := IC.out.c0; have yC1 := IC.out.c1; have yC2 := IC.out.c2; have yC3 := IC.out.c3; have yC4 := IC.out.c4; have yC5 := IC.out.c5; have yC6 := IC.out.c6
  go_enter Tryz.func10, Tryz.ntmps10
  go_wp2_with (first
    | (go_at_call 18; have T5 := T4; refine (Join_ok g k b c _ (HB.out.at IA.out.b) (HC.out.at IA.out.b) HFB.out HFC.out).mono ?_; rintro e w5 hJ; obtain ⟨x, he, hz, hb⟩ := joined_of HLE.out hJ; subst he; unfold CodeH.v; replace IA := Lib.hid ((IA.out.below hb).alloc (.cells #[.slice x.i.a x.i.n x.i.c, .slice x.p.a x.p.n x.p.c, .slice x.t.a x.t.n x.t.c, .slice x.s.a x.s.n x.s.c, .slice x.g.a x.g.n x.g.c, .slice x.r.a x.r.n x.r.c, .slice x.o.a x.o.n x.o.c] 30)); replace IB := Lib.hid ((IB.out.below hb).alloc (.cells #[.slice x.i.a x.i.n x.i.c, .slice x.p.a x.p.n x.p.c, .slice x.t.a x.t.n x.t.c, .slice x.s.a x.s.n x.s.c, .slice x.g.a x.g.n x.g.c, .slice x.r.a x.r.n x.r.c, .slice x.o.a x.o.n x.o.c] 30)); replace IC := Lib.hid ((IC.out.below hb).alloc (.cells #[.slice x.i.a x.i.n x.i.c, .slice x.p.a x.p.n x.p.c, .slice x.t.a x.t.n x.t.c, .slice x.s.a x.s.n x.s.c, .slice x.g.a x.g.n x.g.c, .slice x.r.a x.r.n x.r.c, .slice x.o.a x.o.n x.o.c] 30)); clear yB0 yB1 yB2 yB3 yB4 yB5 yB6; clear yC0 yC1 yC2 yC3 yC4 yC5 yC6; clear hb hz hJ; clear T4)
    | (go_at_call 18; have T4 := T3; refine (Join_bad h g a b _ (HA.out.at IA.out.b) (HB.out.at IA.out.b) HFAB.out).mono ?_; rintro e w4 ⟨rfl, hb⟩; replace IA := Lib.hid ((IA.out.below hb).alloc (.cells #[.slice none 0 0, .slice none 0 0, .slice none 0 0, .slice none 0 0, .slice none 0 0, .slice none 0 0, .slice none 0 0] 30)); replace IB := Lib.hid ((IB.out.below hb).alloc (.cells #[.slice none 0 0, .slice none 0 0, .slice none 0 0, .slice none 0 0, .slice none 0 0, .slice none 0 0, .slice none 0 0] 30)); replace IC := Lib.hid ((IC.out.below hb).alloc (.cells #[.slice none 0 0, .slice none 0 0, .slice none 0 0, .slice none 0 0, .slice none 0 0, .slice none 0 0, .slice none 0 0] 30)); clear yA0 yA1 yA2 yA3 yA4 yA5 yA6; clear yB0 yB1 yB2 yB3 yB4 yB5 yB6; clear yC0 yC1 yC2 yC3 yC4 yC5 yC6; have yB0 := IB.out.c0; have yB1 := IB.out.c1; have yB2 := IB.out.c2; have yB3 := IB.out.c3; have yB4 := IB.out.c4; have yB5 := IB.out.c5; have yB6 := IB.out.c6; have yC0 := IC.out.c0; have yC1 := IC.out.c1; have yC2 := IC.out.c2; have yC3 := IC.out.c3; have yC4 := IC.out.c4; have yC5 := IC.out.c5; have yC6 := IC.out.c6; clear hb; clear T3)
    | (go_at_call 12; have T3 := T2; refine (small_any k c _ (HC.out.at IA.out.b)).mono ?_; rintro e w3 ⟨rfl, hb⟩; replace IA := Lib.hid (IA.out.below hb); replace IB := Lib.hid (IB.out.below hb); replace IC := Lib.hid (IC.out.below hb); rw [SMC.out]; clear yA0 yA1 yA2 yA3 yA4 yA5 yA6; clear yB0 yB1 yB2 yB3 yB4 yB5 yB6; clear yC0 yC1 yC2 yC3 yC4 yC5 yC6; have yA0 := IA.out.c0; have yA1 := IA.out.c1; have yA2 := IA.out.c2; have yA3 := IA.out.c3; have yA4 := IA.out.c4; have yA5 := IA.out.c5; have yA6 := IA.out.c6; have yB0 := IB.out.c0; have yB1 := IB.out.c1; have yB2 := IB.out.c2; have yB3 := IB.out.c3; have yB4 := IB.out.c4; have yB5 := IB.out.c5; have yB6 := IB.out.c6; have yC0 := IC.out.c0; have yC1 := IC.out.c1; have yC2 := IC.out.c2; have yC3 := IC.out.c3; have yC4 := IC.out.c4; have yC5 := IC.out.c5; have yC6 := IC.out.c6; clear hb; clear T2)
    | (go_at_call 12; have T2 := T1; refine (small_any g b _ (HB.out.at IA.out.b)).mono ?_; rintro e w2 ⟨rfl, hb⟩; replace IA := Lib.hid (IA.out.below hb); replace IB := Lib.hid (IB.out.below hb); replace IC := Lib.hid (IC.out.below hb); rw [SMB.out]; clear yA0 yA1 yA2 yA3 yA4 yA5 yA6; clear yB0 yB1 yB2 yB3 yB4 yB5 yB6; clear yC0 yC1 yC2 yC3 yC4 yC5 yC6; have yA0 := IA.out.c0; have yA1 := IA.out.c1; have yA2 := IA.out.c2; have yA3 := IA.out.c3; have yA4 := IA.out.c4; have yA5 := IA.out.c5; have yA6 := IA.out.c6; have yB0 := IB.out.c0; have yB1 := IB.out.c1; have yB2 := IB.out.c2; have yB3 := IB.out.c3; have yB4 := IB.out.c4; have yB5 := IB.out.c5; have yB6 := IB.out.c6; have yC0 := IC.out.c0; have yC1 := IC.out.c1; have yC2 := IC.out.c2; have yC3 := IC.out.c3; have yC4 := IC.out.c4; have yC5 := IC.out.c5; have yC6 := IC.out.c6; clear hb; clear T1)
    | (go_at_call 12; have T1 := T0; refine (small_any h a _ (HA.out.at IA.out.b)).mono ?_; rintro e w1 ⟨rfl, hb⟩; replace IA := Lib.hid (IA.out.below hb); replace IB := Lib.hid (IB.out.below hb); replace IC := Lib.hid (IC.out.below hb); rw [SMA.out]; clear yA0 yA1 yA2 yA3 yA4 yA5 yA6; clear yB0 yB1 yB2 yB3 yB4 yB5 yB6; clear yC0 yC1 yC2 yC3 yC4 yC5 yC6; have yA0 := IA.out.c0; have yA1 := IA.out.c1; have yA2 := IA.out.c2; have yA3 := IA.out.c3; have yA4 := IA.out.c4; have yA5 := IA.out.c5; have yA6 := IA.out.c6; have yB0 := IB.out.c0; have yB1 := IB.out.c1; have yB2 := IB.out.c2; have yB3 := IB.out.c3; have yB4 := IB.out.c4; have yB5 := IB.out.c5; have yB6 := IB.out.c6; have yC0 := IC.out.c0; have yC1 := IC.out.c1; have yC2 := IC.out.c2; have yC3 := IC.out.c3; have yC4 := IC.out.c4; have yC5 := IC.out.c5; have yC6 := IC.out.c6; clear hb; clear T0)
    | (go_at_call 13; refine (sanity_ok _ (HV.out.at IA.out.b IA.out.b.size)).mono ?_; rintro e w20 ⟨rfl, hb⟩; replace IA := Lib.hid (IA.out.below hb); clear hb))
  go_ret
  exact ⟨rfl, IA.out.b⟩
end Go.Proofs.YtmfnholhhakgaaaGreatDoor
