/- CodeParts: its walk at codes that Join takes (the third one not; the first list test). -/
import Derived.Test.YtmfnholhhakgaaaGreatDoorPtq
import Derived.StillTailTactics
namespace Go.Proofs.YtmfnholhhakgaaaGreatDoor
open Go Go.Proofs Go.RowKit Go.Sort
set_option maxRecDepth 100000
set_option maxHeartbeats 16000000 in
theorem CodeParts_01 (h g k : CodeH) (a b c : CodeD) (n : Int) (w : World) (Ha : CodeAt w w.heap.size h a) (Hb : CodeAt w w.heap.size g b) (Hc : CodeAt w w.heap.size k c) (hv : Vars w.heap.size w)
    (sa : smallB a = true) (sb : smallB b = true) (sc : smallB c = true) (la : h.i.n ≤ 150) (lb : g.i.n ≤ 150) (lc : k.i.n ≤ 150)
    (fa : fineB a (largeB h) = true) (fb : fineB b (largeB g) = true) (fc : fineB c (largeB k) = false)
    (LL ML MT AL : List Int) (RL SL TL : List Bool) (eL : entL a = LL) (eM : entL b = ML) (eT : ML = 0 :: MT) (eA : entL (joinD h a b) = AL) (eR : rchL a = RL) (eS : rchL b = SL) (eJ : rchL (joinD h a b) = TL)
    (hq : (AL == LL ++ ML.map (· + (h.i.n : Int))) = true) 
    (K : Nat) (hK : K < g.i.n) (hKd : (n < 0 ∧ K = 0) ∨ (0 ≤ n ∧ n % (g.i.n : Int) = (K : Int))) :
    Calls Tryz.prog 10 #[.agg #[.slice h.i.a h.i.n h.i.c, .slice h.p.a h.p.n h.p.c, .slice h.t.a h.t.n h.t.c, .slice h.s.a h.s.n h.s.c, .slice h.g.a h.g.n h.g.c, .slice h.r.a h.r.n h.r.c, .slice h.o.a h.o.n h.o.c], .agg #[.slice g.i.a g.i.n g.i.c, .slice g.p.a g.p.n g.p.c, .slice g.t.a g.t.n g.t.c, .slice g.s.a g.s.n g.s.c, .slice g.g.a g.g.n g.g.c, .slice g.r.a g.r.n g.r.c, .slice g.o.a g.o.n g.o.c], .agg #[.slice k.i.a k.i.n k.i.c, .slice k.p.a k.p.n k.p.c, .slice k.t.a k.t.n k.t.c, .slice k.s.a k.s.n k.s.c, .slice k.g.a k.g.n k.g.c, .slice k.r.a k.r.n k.r.c, .slice k.o.a k.o.n k.o.c], .int .i64 n] w fun e w' => e = .returned (.bool true) ∧ Below w.heap.size w w' := by
  have HA := Lib.hid Ha
  have HB := Lib.hid Hb
  have HC := Lib.hid Hc
  have HV := Lib.hid hv
  have SMA := Lib.hid sa
  have SMB := Lib.hid sb
  have SMC := Lib.hid sc
  have HFA := Lib.hid fa
  have HFB := Lib.hid fb
  have HFC := Lib.hid fc
  obtain ⟨la0, WA⟩ := fine_well fa
  obtain ⟨lb0, WB⟩ := fine_well fb
  obtain ⟨na0, _⟩ := large_sizes la0
  obtain ⟨nb0, _⟩ := large_sizes lb0
  have ea := Ha.ni.1
  have eb := Hb.ni.1
  have na00 : 0 < a.instrs.length := by omega
  have nb00 : 0 < b.instrs.length := by omega
  have WJ := well_join Ha.lens WA WB
  have HLD : Hid (∀ h, largeD (joinD h a b) = false) := Lib.hid (fun h => small_join2 h sa sb na00)
  have HFD : Hid (∀ (d : CodeH) (W : World) (B : Nat), CodeAt W B d (joinD h a b) → fineB (joinD h a b) (largeB d) = true) := Lib.hid (fun d W B hd => fine_join hd Ha.lens WA WB (small_join2 h sa sb na00))
  have HFBC : Hid ((fineB b (largeB g) && fineB c (largeB k)) = false) := Lib.hid (by rw [fb, fc]; rfl)
  have hMB : ∀ y ∈ ML, 0 ≤ y ∧ y ≤ 1000000 := fun y hy => by
    rw [← eM] at hy
    obtain ⟨e, rfl, he⟩ := ent_pl WB nb00 hy
    omega
  have hLn : LL.length ≤ 150 := by have := ent_len WA na00; rw [eL] at this; omega
  have hMn : ML.length ≤ 150 := by have := ent_len WB nb00; rw [eM] at this; omega
  have hAn : AL.length ≤ 300 := by have := ent_len WJ (by rw [join_n Ha.lens]; omega); rw [join_n Ha.lens, eA] at this; omega
  have hMP : 0 < ML.length := by rw [eT]; simp
  have HMP := Lib.hid hMP
  have HMH : Hid (ML[0]? = some 0) := Lib.hid (by rw [eT]; rfl)
  have HMB := Lib.hid hMB
  have HMT := Lib.hid eT
  have hm0 : ((ML.length : Int) == 0) = false := by rw [beq_eq_false_iff_ne]; omega
  have HQ := Lib.hid hq
  have XL := Lib.hid eL
  have XM := Lib.hid eM
  have XA := Lib.hid eA
  have XR := Lib.hid eR
  have XS := Lib.hid eS
  have XT := Lib.hid eJ
  have hRn : RL.length = h.i.n := by rw [← eR, rchL_len]; omega
  have hSn : SL.length = g.i.n := by rw [← eS, rchL_len]; omega
  have hTn : TL.length = h.i.n + g.i.n := by rw [← eJ, rchL_len, join_n Ha.lens]; omega
  have HFL : Hid (∀ i, i < h.i.n → ∃ t, TL[i]? = some t ∧ RL[i]? = some t) := Lib.hid (fun i hi => by
    have := flag_left Ha.lens WA WB na0 nb00 hi
    rwa [eJ, eR] at this)
  have HFR : Hid (∀ i, i < g.i.n → ∃ t s u, TL[h.i.n + i]? = some t ∧ SL[i]? = some s ∧ TL[h.i.n]? = some u ∧ (t = true → s = true) ∧ (u = true → t = s)) := Lib.hid (fun i hi => by
    have := flag_right Ha.lens WA WB na0 nb00 (show i < b.instrs.length by omega)
    rwa [eJ, eS] at this)
  obtain ⟨xk, hxk⟩ : ∃ x, b.instrs[K]? = some x := ⟨_, List.getElem?_eq_getElem (by omega)⟩
  obtain ⟨PL, hPL⟩ : ∃ l, nextL xk K g.i.n = l := ⟨_, rfl⟩
  have hpl : PL.length ≤ 2 := by rw [← hPL]; exact next_len xk K _
  have HPB : Hid (∀ z ∈ PL, 0 ≤ z ∧ z ≤ 1000000) := Lib.hid (fun z hz => by
    rw [← hPL, eb] at hz
    obtain ⟨j, rfl, hj⟩ := next_pl WB (List.mem_of_getElem? hxk) K z hz
    omega)
  have HNX : Hid (∀ (z : Int), z = (K : Int) → ∀ W, CodeAt W W.heap.size g b → Calls Tryz.prog 33 #[.agg #[.slice g.i.a g.i.n g.i.c, .slice g.p.a g.p.n g.p.c, .slice g.t.a g.t.n g.t.c, .slice g.s.a g.s.n g.s.c, .slice g.g.a g.g.n g.g.c, .slice g.r.a g.r.n g.r.c, .slice g.o.a g.o.n g.o.c], .int .i64 z] W (RetIntsE W PL 0)) := Lib.hid (fun z hz W' hc => by
    subst hz
    have h1 := Next_ok g b W' hc K xk hxk hK fb
    rw [hPL] at h1
    exact h1)
  have HNJ : Hid (∀ (z : CodeH) (zz : Int), zz = (h.i.n : Int) + (K : Int) → ∀ W, CodeAt W W.heap.size z (joinD h a b) → Calls Tryz.prog 33 #[.agg #[.slice z.i.a z.i.n z.i.c, .slice z.p.a z.p.n z.p.c, .slice z.t.a z.t.n z.t.c, .slice z.s.a z.s.n z.s.c, .slice z.g.a z.g.n z.g.c, .slice z.r.a z.r.n z.r.c, .slice z.o.a z.o.n z.o.c], .int .i64 zz] W (RetIntsE W (PL.map (· + (h.i.n : Int))) 0)) := Lib.hid (fun z zz hzz W' hz => by
    subst hzz
    have hzn := hz.ni.1
    rw [join_n Ha.lens] at hzn
    have h1 := Next_ok z (joinD h a b) W' hz (h.i.n + K) (shI h xk) (by rw [join_right Ha.lens, hxk]; rfl) (by omega) (HFD.out z _ _ hz)
    have h2 : nextL (shI h xk) (h.i.n + K) z.i.n = PL.map (· + (h.i.n : Int)) := by rw [hzn, next_shift (h := h) (b := b) (k := K) (x := xk) (by omega), ← eb, hPL]
    rw [h2] at h1
    exact h1)
  have HRn := Lib.hid hRn
  have HSn := Lib.hid hSn
  have HTn := Lib.hid hTn
  have hbn : ((TL.length : Int) != (RL.length : Int) + (SL.length : Int)) = false := by rw [bne_eq_false_iff_eq]; omega
  have hR1 : RL.length ≤ 150 := by omega
  have hS1 : SL.length ≤ 150 := by omega
  have hT1 : TL.length ≤ 300 := by omega
  have IA := Lib.hid (BInv.start h w 30)
  have IB0 := BInv.start g (w.alloc (.cells #[.slice h.i.a h.i.n h.i.c, .slice h.p.a h.p.n h.p.c, .slice h.t.a h.t.n h.t.c, .slice h.s.a h.s.n h.s.c, .slice h.g.a h.g.n h.g.c, .slice h.r.a h.r.n h.r.c, .slice h.o.a h.o.n h.o.c] 30)) 30
  have IC0 := BInv.start k ((w.alloc (.cells #[.slice h.i.a h.i.n h.i.c, .slice h.p.a h.p.n h.p.c, .slice h.t.a h.t.n h.t.c, .slice h.s.a h.s.n h.s.c, .slice h.g.a h.g.n h.g.c, .slice h.r.a h.r.n h.r.c, .slice h.o.a h.o.n h.o.c] 30)).alloc (.cells #[.slice g.i.a g.i.n g.i.c, .slice g.p.a g.p.n g.p.c, .slice g.t.a g.t.n g.t.c, .slice g.s.a g.s.n g.s.c, .slice g.g.a g.g.n g.g.c, .slice g.r.a g.r.n g.r.c, .slice g.o.a g.o.n g.o.c] 30)) 30
  rw [World.size_alloc] at IB0 IC0
  rw [World.size_alloc] at IC0
  replace IA := Lib.hid ((IA.out.alloc (.cells #[.slice g.i.a g.i.n g.i.c, .slice g.p.a g.p.n g.p.c, .slice g.t.a g.t.n g.t.c, .slice g.s.a g.s.n g.s.c, .slice g.g.a g.g.n g.g.c, .slice g.r.a g.r.n g.r.c, .slice g.o.a g.o.n g.o.c] 30)).alloc (.cells #[.slice k.i.a k.i.n k.i.c, .slice k.p.a k.p.n k.p.c, .slice k.t.a k.t.n k.t.c, .slice k.s.a k.s.n k.s.c, .slice k.g.a k.g.n k.g.c, .slice k.r.a k.r.n k.r.c, .slice k.o.a k.o.n k.o.c] 30))
  have IB := Lib.hid (IB0.alloc (.cells #[.slice k.i.a k.i.n k.i.c, .slice k.p.a k.p.n k.p.c, .slice k.t.a k.t.n k.t.c, .slice k.s.a k.s.n k.s.c, .slice k.g.a k.g.n k.g.c, .slice k.r.a k.r.n k.r.c, .slice k.o.a k.o.n k.o.c] 30))
  have IC := Lib.hid IC0
  have T0 := trivial
  clear IB0 IC0 hxk hPL hRn hSn hTn eL eM eT eA eR eS eJ hq fa fb fc sa sb sc hv Ha Hb Hc WA WB WJ la0 lb0 na00 nb00 ea eb hMB hMP
  have yA0 := IA.out.c0; have yA1 := IA.out.c1; have yA2 := IA.out.c2; have yA3 := IA.out.c3; have yA4 := IA.out.c4; have yA5 := IA.out.c5; have yA6 := IA.out.c6
  have yB0 := IB.out.c0; have yB1 := IB.out.c1; have yB2 := IB.out.c2; have yB3 := IB.out.c3; have yB4 := IB.out.c4; have yB5 := IB.out.c5; have yB6 := IB.out.c6
  have yC0 := IC.out.c0; have yC1 := IC.out.c1; have yC2 := IC.out.c2; have yC3 := IC.out.c3; have yC4 := IC.out.c4; have yC5 := IC.out.c5; have yC6 := IC.out.c6
  go_enter Tryz.func10, Tryz.ntmps10
  go_wp2_with (first
    | (go_at_call 34; have T14 := T13; refine ((Reached_ok d (joinD h a b) _ (HD.out.at ID.out.b) (HFD.out d _ _ HD.out)).mono fun _ _ => retBE).mono ?_; rintro e w22 ⟨P3, q3, rfl, hb, hr⟩; replace IA := Lib.hid (IA.out.below hb); replace IB := Lib.hid (IB.out.below hb); replace IC := Lib.hid (IC.out.below hb); replace ID := Lib.hid (ID.out.below hb); replace R1 := Lib.hid ((R1.out.below hb).more hb.size); replace R2 := Lib.hid ((R2.out.below hb).more hb.size); rw [XT.out] at hr; rw [XT.out]; have R3 := Lib.hid hr; clear hr; have WW : Hid (PTI w.heap.size w4.heap.size h g d w (w.alloc (.cells #[.slice h.i.a h.i.n h.i.c, .slice h.p.a h.p.n h.p.c, .slice h.t.a h.t.n h.t.c, .slice h.s.a h.s.n h.s.c, .slice h.g.a h.g.n h.g.c, .slice h.r.a h.r.n h.r.c, .slice h.o.a h.o.n h.o.c] 30)) w4 w22 P1 P2 P3 RL SL TL) := Lib.hid ⟨IA.out, IB.out, ID.out, R1.out, R2.out, R3.out⟩; clear IA IB IC ID R1 R2 R3 zA zB zC zD; clear yD0 yD1 yD2 yD3 yD4 yD5 yD6; clear hb; clear T13)
    | (go_at_call 34; have T13 := T12; refine ((Reached_ok g b _ (HB.out.at IA.out.b) HFB.out).mono fun _ _ => retBE).mono ?_; rintro e w21 ⟨P2, q2, rfl, hb, hr⟩; replace IA := Lib.hid (IA.out.below hb); replace IB := Lib.hid (IB.out.below hb); replace IC := Lib.hid (IC.out.below hb); replace ID := Lib.hid (ID.out.below hb); replace R1 := Lib.hid ((R1.out.below hb).more hb.size); rw [XS.out] at hr; rw [XS.out]; have R2 := Lib.hid hr; clear hr; clear yB0 yB1 yB2 yB3 yB4 yB5 yB6; have yD0 := ID.out.c0; have yD1 := ID.out.c1; have yD2 := ID.out.c2; have yD3 := ID.out.c3; have yD4 := ID.out.c4; have yD5 := ID.out.c5; have yD6 := ID.out.c6; clear hb; clear T12)
    | (go_at_call 34; have T12 := T11; refine ((Reached_ok h a _ (HA.out.at IA.out.b) HFA.out).mono fun _ _ => retBE).mono ?_; rintro e w20 ⟨P1, q1, rfl, hb, hr⟩; replace IA := Lib.hid (IA.out.below hb); replace IB := Lib.hid (IB.out.below hb); replace IC := Lib.hid (IC.out.below hb); replace ID := Lib.hid (ID.out.below hb); rw [XR.out] at hr; rw [XR.out]; have R1 := Lib.hid hr; clear hr; clear yA0 yA1 yA2 yA3 yA4 yA5 yA6; have yB0 := IB.out.c0; have yB1 := IB.out.c1; have yB2 := IB.out.c2; have yB3 := IB.out.c3; have yB4 := IB.out.c4; have yB5 := IB.out.c5; have yB6 := IB.out.c6; clear hb; clear T11)
    | (go_at_call 39; have T11 := T10; refine (equal_any A3 A5 AL.length k3 (LL.length + ML.length) k5 AL (LL ++ ML.map (· + (h.i.n : Int))) _ (Reads.of_own O3.out) (Reads.of_own O5.out) (by omega)).mono ?_; rintro e w14 ⟨rfl, hb⟩; clear O5; replace IA := Lib.hid (IA.out.below hb); replace IB := Lib.hid (IB.out.below hb); replace IC := Lib.hid (IC.out.below hb); replace ID := Lib.hid (ID.out.below hb); replace O1 := Lib.hid (own_below O1.out hb); replace O2 := Lib.hid (own_below O2.out hb); replace O3 := Lib.hid (own_below O3.out hb); replace S8 := Lib.hid (Nat.le_trans S8.out hb.size); rw [HQ.out]; clear O1 O2 O3 S8 S9 ZL; have yA0 := IA.out.c0; have yA1 := IA.out.c1; have yA2 := IA.out.c2; have yA3 := IA.out.c3; have yA4 := IA.out.c4; have yA5 := IA.out.c5; have yA6 := IA.out.c6; clear hb; clear T10)
    | (at_builtin; have T10 := T9; refine wpList_catK elemInts (by rfl) _ _ rfl B8 _ _ _ rfl O1.out _ _ _ _ rfl O4.out (one_map _) (by omega) S8.out ?_; intro v5 w13 ho hg hk; clear O4; have hbx := below_app (Below.refl _ _) hg S8.out ZL.out; replace IA := Lib.hid (IA.out.to (hbx.mono zA)); replace IB := Lib.hid (IB.out.to (hbx.mono zB)); replace IC := Lib.hid (IC.out.to (hbx.mono zC)); replace ID := Lib.hid (ID.out.to (hbx.mono zD)); replace S8 := Lib.hid (Nat.le_trans S8.out hg.size); replace O2 := Lib.hid (own_apart O2.out ZL.out hg); replace O3 := Lib.hid (own_apart O3.out (fun q hq => ⟨(ZL.out q hq).1, Nat.lt_of_lt_of_le (ZL.out q hq).2 S9.out⟩) hg); replace O1 := Lib.hid hk; clear hbx hk hg; rw [← List.map_append] at ho; obtain ⟨A5, k5, rfl⟩ := own_form ho; have O5 := Lib.hid ho; clear ho; clear T9)
    | (go_at_call 40; have T9 := T8; refine (moved_any (some ⟨g2, 0, none⟩) ML.length k2 ML (h.i.n : Int) _ (Reads.of_own O2.out) (by omega) (by omega) HMB.out).mono ?_; rintro e w12 ⟨v4, rfl, ho, hb⟩; replace IA := Lib.hid (IA.out.below hb); replace IB := Lib.hid (IB.out.below hb); replace IC := Lib.hid (IC.out.below hb); replace ID := Lib.hid (ID.out.below hb); replace O1 := Lib.hid (own_below O1.out hb); replace O2 := Lib.hid (own_below O2.out hb); replace O3 := Lib.hid (own_below O3.out hb); replace S8 := Lib.hid (Nat.le_trans S8.out hb.size); clear m0; rw [List.length_map] at ho; obtain ⟨A4, k4, rfl⟩ := own_form ho; have O4 := Lib.hid ho; clear ho hb; clear T8)
    | (go_at_call 32; have T8 := T7; refine (Entries_ok d (joinD h a b) _ (HD.out.at ID.out.b) (HFD.out d _ _ HD.out)).mono ?_; rintro e w11 ⟨v3, rfl, ho, hb⟩; replace IA := Lib.hid (IA.out.below hb); replace IB := Lib.hid (IB.out.below hb); replace IC := Lib.hid (IC.out.below hb); replace ID := Lib.hid (ID.out.below hb); replace O1 := Lib.hid (own_below O1.out hb); replace O2 := Lib.hid (own_below O2.out hb); replace S8 := Lib.hid (Nat.le_trans S8.out hb.size); rw [XA.out] at ho; obtain ⟨A3, k3, rfl⟩ := own_form ho; have O3 := Lib.hid ho; clear ho; have m0 := first_cell O2.out HMH.out; clear yD0 yD1 yD2 yD3 yD4 yD5 yD6; clear hb; clear T7)
    | (go_at_call 32; have T7 := T6; refine (Entries_ok g b _ (HB.out.at IA.out.b) HFB.out).mono ?_; rintro e w10 ⟨v2, rfl, ho, hb⟩; replace IA := Lib.hid (IA.out.below hb); replace IB := Lib.hid (IB.out.below hb); replace IC := Lib.hid (IC.out.below hb); replace ID := Lib.hid (ID.out.below hb); replace O1 := Lib.hid (own_below O1.out hb); replace S8 := Lib.hid (Nat.le_trans S8.out hb.size); have S9 := Lib.hid hb.size; rw [XM.out] at ho; obtain ⟨g2, k2, rfl, hg2⟩ := own_pos ho HMP.out; have O2 := Lib.hid ho; clear ho hg2; clear yB0 yB1 yB2 yB3 yB4 yB5 yB6; have yD0 := ID.out.c0; have yD1 := ID.out.c1; have yD2 := ID.out.c2; have yD3 := ID.out.c3; have yD4 := ID.out.c4; have yD5 := ID.out.c5; have yD6 := ID.out.c6; clear hb; clear T6)
    | (go_at_call 32; have T6 := T5; obtain ⟨B8, hB8⟩ : ∃ B : Nat, (w8.alloc (.cells #[.slice none 0 0, .slice none 0 0, .slice none 0 0, .slice none 0 0, .slice none 0 0, .slice none 0 0, .slice none 0 0] 30)).heap.size = B := ⟨_, rfl⟩; have zA := IA.out.z; have zB := IB.out.z; have zC := IC.out.z; have zD := ID.out.z; rw [hB8] at zA zB zC zD; refine (Entries_ok h a _ (HA.out.at IA.out.b) HFA.out).mono ?_; rintro e w9 ⟨v1, rfl, ho, hb⟩; rw [hB8] at ho; have S8 : Hid (B8 ≤ w9.heap.size) := Lib.hid (by rw [← hB8]; exact hb.size); replace IA := Lib.hid (IA.out.below hb); replace IB := Lib.hid (IB.out.below hb); replace IC := Lib.hid (IC.out.below hb); replace ID := Lib.hid (ID.out.below hb); rw [XL.out] at ho; obtain ⟨A1, k1, rfl⟩ := own_form ho; have O1 := Lib.hid ho; have ZL := Lib.hid ho.lt; clear ho hB8; clear yA0 yA1 yA2 yA3 yA4 yA5 yA6; have yB0 := IB.out.c0; have yB1 := IB.out.c1; have yB2 := IB.out.c2; have yB3 := IB.out.c3; have yB4 := IB.out.c4; have yB5 := IB.out.c5; have yB6 := IB.out.c6; clear hb; clear T5)
    | (go_at_call 18; have T5 := T4; refine (Join_bad g k b c _ (HB.out.at IA.out.b) (HC.out.at IA.out.b) HFBC.out).mono ?_; rintro e w8 ⟨rfl, hb⟩; replace IA := Lib.hid ((IA.out.below hb).alloc (.cells #[.slice none 0 0, .slice none 0 0, .slice none 0 0, .slice none 0 0, .slice none 0 0, .slice none 0 0, .slice none 0 0] 30)); replace IB := Lib.hid ((IB.out.below hb).alloc (.cells #[.slice none 0 0, .slice none 0 0, .slice none 0 0, .slice none 0 0, .slice none 0 0, .slice none 0 0, .slice none 0 0] 30)); replace IC := Lib.hid ((IC.out.below hb).alloc (.cells #[.slice none 0 0, .slice none 0 0, .slice none 0 0, .slice none 0 0, .slice none 0 0, .slice none 0 0, .slice none 0 0] 30)); replace ID := Lib.hid ((ID.out.below hb).alloc (.cells #[.slice none 0 0, .slice none 0 0, .slice none 0 0, .slice none 0 0, .slice none 0 0, .slice none 0 0, .slice none 0 0] 30)); clear yB0 yB1 yB2 yB3 yB4 yB5 yB6; clear yC0 yC1 yC2 yC3 yC4 yC5 yC6; have yA0 := IA.out.c0; have yA1 := IA.out.c1; have yA2 := IA.out.c2; have yA3 := IA.out.c3; have yA4 := IA.out.c4; have yA5 := IA.out.c5; have yA6 := IA.out.c6; clear hb; clear T4)
    | (go_at_call 18; have T4 := T3; refine (Join_ok h g a b _ (HA.out.at IA.out.b) (HB.out.at IA.out.b) HFA.out HFB.out).mono ?_; rintro e w4 hJ; obtain ⟨d, he, hz, hb⟩ := joined_of (HLD.out h) hJ; subst he; unfold CodeH.v; have HD := Lib.hid hz; replace IA := Lib.hid ((IA.out.below hb).alloc (.cells #[.slice d.i.a d.i.n d.i.c, .slice d.p.a d.p.n d.p.c, .slice d.t.a d.t.n d.t.c, .slice d.s.a d.s.n d.s.c, .slice d.g.a d.g.n d.g.c, .slice d.r.a d.r.n d.r.c, .slice d.o.a d.o.n d.o.c] 30)); replace IB := Lib.hid ((IB.out.below hb).alloc (.cells #[.slice d.i.a d.i.n d.i.c, .slice d.p.a d.p.n d.p.c, .slice d.t.a d.t.n d.t.c, .slice d.s.a d.s.n d.s.c, .slice d.g.a d.g.n d.g.c, .slice d.r.a d.r.n d.r.c, .slice d.o.a d.o.n d.o.c] 30)); replace IC := Lib.hid ((IC.out.below hb).alloc (.cells #[.slice d.i.a d.i.n d.i.c, .slice d.p.a d.p.n d.p.c, .slice d.t.a d.t.n d.t.c, .slice d.s.a d.s.n d.s.c, .slice d.g.a d.g.n d.g.c, .slice d.r.a d.r.n d.r.c, .slice d.o.a d.o.n d.o.c] 30)); have ID := Lib.hid (BInv.start d w4 30); clear yA0 yA1 yA2 yA3 yA4 yA5 yA6; clear yB0 yB1 yB2 yB3 yB4 yB5 yB6; clear yC0 yC1 yC2 yC3 yC4 yC5 yC6; have yB0 := IB.out.c0; have yB1 := IB.out.c1; have yB2 := IB.out.c2; have yB3 := IB.out.c3; have yB4 := IB.out.c4; have yB5 := IB.out.c5; have yB6 := IB.out.c6; have yC0 := IC.out.c0; have yC1 := IC.out.c1; have yC2 := IC.out.c2; have yC3 := IC.out.c3; have yC4 := IC.out.c4; have yC5 := IC.out.c5; have yC6 := IC.out.c6; clear hb hz hJ; clear T3)
    | (go_at_call 12; have T3 := T2; refine (small_any k c _ (HC.out.at IA.out.b)).mono ?_; rintro e w3 ⟨rfl, hb⟩; replace IA := Lib.hid (IA.out.below hb); replace IB := Lib.hid (IB.out.below hb); replace IC := Lib.hid (IC.out.below hb); rw [SMC.out]; clear yA0 yA1 yA2 yA3 yA4 yA5 yA6; clear yB0 yB1 yB2 yB3 yB4 yB5 yB6; clear yC0 yC1 yC2 yC3 yC4 yC5 yC6; have yA0 := IA.out.c0; have yA1 := IA.out.c1; have yA2 := IA.out.c2; have yA3 := IA.out.c3; have yA4 := IA.out.c4; have yA5 := IA.out.c5; have yA6 := IA.out.c6; have yB0 := IB.out.c0; have yB1 := IB.out.c1; have yB2 := IB.out.c2; have yB3 := IB.out.c3; have yB4 := IB.out.c4; have yB5 := IB.out.c5; have yB6 := IB.out.c6; have yC0 := IC.out.c0; have yC1 := IC.out.c1; have yC2 := IC.out.c2; have yC3 := IC.out.c3; have yC4 := IC.out.c4; have yC5 := IC.out.c5; have yC6 := IC.out.c6; clear hb; clear T2)
    | (go_at_call 12; have T2 := T1; refine (small_any g b _ (HB.out.at IA.out.b)).mono ?_; rintro e w2 ⟨rfl, hb⟩; replace IA := Lib.hid (IA.out.below hb); replace IB := Lib.hid (IB.out.below hb); replace IC := Lib.hid (IC.out.below hb); rw [SMB.out]; clear yA0 yA1 yA2 yA3 yA4 yA5 yA6; clear yB0 yB1 yB2 yB3 yB4 yB5 yB6; clear yC0 yC1 yC2 yC3 yC4 yC5 yC6; have yA0 := IA.out.c0; have yA1 := IA.out.c1; have yA2 := IA.out.c2; have yA3 := IA.out.c3; have yA4 := IA.out.c4; have yA5 := IA.out.c5; have yA6 := IA.out.c6; have yB0 := IB.out.c0; have yB1 := IB.out.c1; have yB2 := IB.out.c2; have yB3 := IB.out.c3; have yB4 := IB.out.c4; have yB5 := IB.out.c5; have yB6 := IB.out.c6; have yC0 := IC.out.c0; have yC1 := IC.out.c1; have yC2 := IC.out.c2; have yC3 := IC.out.c3; have yC4 := IC.out.c4; have yC5 := IC.out.c5; have yC6 := IC.out.c6; clear hb; clear T1)
    | (go_at_call 12; have T1 := T0; refine (small_any h a _ (HA.out.at IA.out.b)).mono ?_; rintro e w1 ⟨rfl, hb⟩; replace IA := Lib.hid (IA.out.below hb); replace IB := Lib.hid (IB.out.below hb); replace IC := Lib.hid (IC.out.below hb); rw [SMA.out]; clear yA0 yA1 yA2 yA3 yA4 yA5 yA6; clear yB0 yB1 yB2 yB3 yB4 yB5 yB6; clear yC0 yC1 yC2 yC3 yC4 yC5 yC6; have yA0 := IA.out.c0; have yA1 := IA.out.c1; have yA2 := IA.out.c2; have yA3 := IA.out.c3; have yA4 := IA.out.c4; have yA5 := IA.out.c5; have yA6 := IA.out.c6; have yB0 := IB.out.c0; have yB1 := IB.out.c1; have yB2 := IB.out.c2; have yB3 := IB.out.c3; have yB4 := IB.out.c4; have yB5 := IB.out.c5; have yB6 := IB.out.c6; have yC0 := IC.out.c0; have yC1 := IC.out.c1; have yC2 := IC.out.c2; have yC3 := IC.out.c3; have yC4 := IC.out.c4; have yC5 := IC.out.c5; have yC6 := IC.out.c6; clear hb; clear T0))
  go_loopw [25] (fun i wr => ∃ q : Nat, q ≤ TL.length ∧ i = .int .i64 q ∧ PTI w.heap.size w4.heap.size h g d w (w.alloc (.cells #[.slice h.i.a h.i.n h.i.c, .slice h.p.a h.p.n h.p.c, .slice h.t.a h.t.n h.t.c, .slice h.s.a h.s.n h.s.c, .slice h.g.a h.g.n h.g.c, .slice h.r.a h.r.n h.r.c, .slice h.o.a h.o.n h.o.c] 30)) w4 wr P1 P2 P3 RL SL TL) (fun i _ => TL.length - (intOf i).toNat)
  case atStart => exact ⟨0, by omega, rfl, WW.out⟩
  case round =>
    obtain ⟨q, hq, rfl, hW⟩ := hrel
    clear WW
    have WW := Lib.hid hW
    clear hW
    by_cases hlt : q < TL.length
    · have hi0 : (0 : Int) ≤ (q : Int) := by omega
      have hi1 : (q : Int) < (TL.length : Int) := by omega
      by_cases hqn : q < h.i.n
      · obtain ⟨t, ht, hr⟩ := HFL.out q hqn
        obtain ⟨a3, t3, ha3, ht3, _, c3⟩ := Reads.elem1 (f := Value.bool) WW.out.r3 rfl hlt
        obtain ⟨a1, t1, ha1, ht1, _, c1⟩ := Reads.elem1 (f := Value.bool) WW.out.r1 rfl (show q < RL.length by have := HRn.out; omega)
        rw [ht] at ht3
        cases ht3
        rw [hr] at ht1
        cases ht1
        subst ha3
        subst ha1
        have hi2 : (q : Int) < (RL.length : Int) := by have := HRn.out; omega
        have g1 : decide ((q : Int) < (h.i.n : Int)) = true := by simp; omega
        have g2 : decide (q < h.i.n) = true := by simp; omega
        have g3 : decide ((h.i.n : Int) ≤ (q : Int)) = false := by simp; omega
        have g4 : decide (h.i.n ≤ q) = false := by simp; omega
        have g5 : (t != t) = false := by simp
        clear ht hr
        go_wp2
        go_quiet (fail)
        go_wp2
        go_roundw
        case rel => exact ⟨q + 1, by omega, by go_num, WW.out.drewN _⟩
        case measure => simp [intOf]; omega
      · obtain ⟨j, hj⟩ : ∃ j, q = h.i.n + j := ⟨q - h.i.n, by omega⟩
        have hjg : j < g.i.n := by have := HTn.out; omega
        obtain ⟨t, s, u, ht, hs, hu, hts, hut⟩ := HFR.out j hjg
        rw [← hj] at ht
        obtain ⟨a3, t3, ha3, ht3, _, c3⟩ := Reads.elem1 (f := Value.bool) WW.out.r3 rfl hlt
        obtain ⟨a3', u3, ha3', hu3, _, c3'⟩ := Reads.elem1 (f := Value.bool) WW.out.r3 rfl (show h.i.n < TL.length by have := HTn.out; omega)
        obtain ⟨a2, s2, ha2, hs2, _, c2⟩ := Reads.elem1 (f := Value.bool) WW.out.r2 rfl (show j < SL.length by have := HSn.out; omega)
        rw [ht] at ht3
        cases ht3
        rw [hu] at hu3
        cases hu3
        rw [hs] at hs2
        cases hs2
        rw [ha3] at ha3'
        cases ha3'
        subst ha3
        subst ha2
        have hi2 : (j : Int) < (SL.length : Int) := by have := HSn.out; omega
        have hi3 : (0 : Int) ≤ (j : Int) := by omega
        have hi4 : (h.i.n : Int) < (TL.length : Int) := by have := HTn.out; omega
        have hi5 : (0 : Int) ≤ (h.i.n : Int) := by omega
        have g1 : decide ((q : Int) < (h.i.n : Int)) = false := by simp; omega
        have g2 : decide (q < h.i.n) = false := by simp; omega
        have g3 : decide ((h.i.n : Int) ≤ (q : Int)) = true := by simp; omega
        have g4 : decide (h.i.n ≤ q) = true := by simp; omega
        have s1 : IntKind.i64.wrap ((q : Int) - (h.i.n : Int)) = (j : Int) := by rw [IntWalk.i64_in _ (by omega)]; omega
        have s2 : (q : Int) - (h.i.n : Int) = (j : Int) := by omega
        have HJ := Lib.hid hj
        clear ht hs hu hj
        rcases bool_cases hts hut with ⟨rfl, rfl, rfl⟩ | ⟨rfl, rfl, rfl⟩ | ⟨rfl, rfl, rfl⟩ | ⟨rfl, rfl⟩
        all_goals
          clear hts hut
          go_wp2
          go_quiet (fail)
          clear s1 s2
          go_wp2
          go_roundw
          case rel => exact ⟨q + 1, by omega, by go_num, WW.out.drewN _⟩
          case measure => simp [intOf]; omega
    · have IA := Lib.hid WW.out.a
      have IB := Lib.hid WW.out.b
      have ID := Lib.hid WW.out.d
      have T100 := trivial
      clear WW
      have yB0 := IB.out.c0; have yB1 := IB.out.c1; have yB2 := IB.out.c2; have yB3 := IB.out.c3; have yB4 := IB.out.c4; have yB5 := IB.out.c5; have yB6 := IB.out.c6
      have gb0 : ((g.i.n : Int) == 0) = false := by rw [beq_eq_false_iff_ne]; omega
      rcases hKd with ⟨hn, rfl⟩ | ⟨hn, hKe⟩
      · have gn : decide (n < 0) = true := by simp; omega
        go_wp2_with (go_at_call 13; refine (sanity_ok _ (HV.out.at IA.out.b IA.out.b.size)).mono ?_; rintro e w32 ⟨rfl, hb⟩; replace IA := Lib.hid (IA.out.below hb); clear hb)
        go_ret
        exact ⟨rfl, IA.out.b⟩
      · have gn : decide (n < 0) = false := by simp; omega
        go_wp2_with (first
      | (go_at_call 39; have T105 := T104; refine (equal_any A6 A7 PL.length k6 PL.length k7 (PL.map (· + (h.i.n : Int))) (PL.map (· + (h.i.n : Int))) _ (by have h1 := R6.out; rw [List.length_map] at h1; exact h1) (by have h1 := R7.out; rw [List.length_map] at h1; exact h1) (by omega)).mono ?_; rintro e w34 ⟨rfl, hb⟩; replace IA := Lib.hid (IA.out.below hb); replace IB := Lib.hid (IB.out.below hb); replace ID := Lib.hid (ID.out.below hb); replace R5 := Lib.hid ((R5.out.below hb).more hb.size); replace R6 := Lib.hid ((R6.out.below hb).more hb.size); replace R7 := Lib.hid ((R7.out.below hb).more hb.size); rw [show (PL.map (· + (h.i.n : Int)) == PL.map (· + (h.i.n : Int))) = true from beq_self_eq_true _]; clear hb; clear T104)
      | (go_at_call 40; have T104 := T103; refine (moved_any A5 PL.length k5 PL (h.i.n : Int) _ R5.out (by omega) (by omega) HPB.out).mono ?_; rintro e w33 ⟨v33, rfl, ho, hb⟩; replace IA := Lib.hid (IA.out.below hb); replace IB := Lib.hid (IB.out.below hb); replace ID := Lib.hid (ID.out.below hb); replace R5 := Lib.hid ((R5.out.below hb).more hb.size); replace R6 := Lib.hid ((R6.out.below hb).more hb.size); obtain ⟨A7, k7, rfl⟩ := own_form ho; have R7 := Lib.hid (Reads.of_own ho); clear ho; clear hb; clear T103)
      | (go_at_call 13; have T103 := T102; refine (sanity_ok _ (HV.out.at IA.out.b IA.out.b.size)).mono ?_; rintro e w32 ⟨rfl, hb⟩; replace IA := Lib.hid (IA.out.below hb); replace IB := Lib.hid (IB.out.below hb); replace ID := Lib.hid (ID.out.below hb); replace R5 := Lib.hid ((R5.out.below hb).more hb.size); replace R6 := Lib.hid ((R6.out.below hb).more hb.size); clear hb; clear T102)
      | (go_at_call 33; have T102 := T101; refine (HNJ.out d _ (by first | omega | (rw [IntWalk.i64_in _ (by omega)]; omega)) _ (HD.out.at ID.out.b)).mono ?_; rintro e w31 ⟨v31, rfl, ho, hb⟩; replace IA := Lib.hid (IA.out.below hb); replace IB := Lib.hid (IB.out.below hb); replace ID := Lib.hid (ID.out.below hb); replace R5 := Lib.hid ((R5.out.below hb).more hb.size); obtain ⟨A6, k6, rfl⟩ := own_form ho; have R6 := Lib.hid (Reads.of_own ho); clear ho; clear yD0 yD1 yD2 yD3 yD4 yD5 yD6; clear hb; clear T101)
      | (go_at_call 33; have T101 := T100; refine (HNX.out _ (by first | omega | (rw [IntWalk.i64_in _ (by omega)]; omega)) _ (HB.out.at IA.out.b)).mono ?_; rintro e w30 ⟨v30, rfl, ho, hb⟩; replace IA := Lib.hid (IA.out.below hb); replace IB := Lib.hid (IB.out.below hb); replace ID := Lib.hid (ID.out.below hb); obtain ⟨A5, k5, rfl⟩ := own_form ho; have R5 := Lib.hid (Reads.of_own ho); clear ho; clear yB0 yB1 yB2 yB3 yB4 yB5 yB6; have yD0 := ID.out.c0; have yD1 := ID.out.c1; have yD2 := ID.out.c2; have yD3 := ID.out.c3; have yD4 := ID.out.c4; have yD5 := ID.out.c5; have yD6 := ID.out.c6; clear hb; clear T100))
        go_ret
        exact ⟨rfl, IA.out.b⟩
end Go.Proofs.YtmfnholhhakgaaaGreatDoor
