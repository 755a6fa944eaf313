/- CodeFlow: its walk: it answers true. -/
import Derived.Test.YtmfnholhhakgaaaGreatDoorCtl
import Derived.Test.YtmfnholhhakgaaaGreatDoorFlp
import Derived.StillTailTactics
namespace Go.Proofs.YtmfnholhhakgaaaGreatDoor
open Go Go.Proofs Go.RowKit Go.Sort
open Classical
set_option maxRecDepth 100000
/-- Flags in block G; the lists l and r lie below it. -/
structure WI (N G : Nat) (h : CodeH) (w wr : World) (n : Nat) (bs : List Bool) (A1 A3 : Option Addr) (EL : List Int) (BL : List Bool) : Prop where
  ev : EV N G h w wr n bs
  r1 : Reads wr G 1 A1 EL.length (intCells EL)
  r3 : Reads wr G 1 A3 BL.length (BL.map Value.bool)
theorem WI.setB {N G n : Nat} {h : CodeH} {w wr : World} {bs BL : List Bool} {A1 A3 : Option Addr} {EL : List Int} (H : WI N G h w wr n bs A1 A3 EL BL) (k : Nat) (b : Bool) : WI N G h w (wr.setCell ⟨G, k, none⟩ (.bool b)) n (bs.set k b) A1 A3 EL BL :=
  { ev := H.ev.setB k b, r1 := H.r1.below ((Below.refl _ _).setCell (Nat.le_refl G) _), r3 := H.r3.below ((Below.refl _ _).setCell (Nat.le_refl G) _) }
theorem WI.below {N G n : Nat} {h : CodeH} {w wr wx : World} {bs BL : List Bool} {A1 A3 : Option Addr} {EL : List Int} (H : WI N G h w wr n bs A1 A3 EL BL) (hb : Below wr.heap.size wr wx) : WI N G h w wx n bs A1 A3 EL BL :=
  have hG : G ≤ wr.heap.size := Nat.le_of_lt H.ev.z
  { ev := H.ev.below hb, r1 := H.r1.below (hb.mono hG), r3 := H.r3.below (hb.mono hG) }
theorem WI.drewN {N G n : Nat} {h : CodeH} {w wr : World} {bs BL : List Bool} {A1 A3 : Option Addr} {EL : List Int} (H : WI N G h w wr n bs A1 A3 EL BL) (q : Nat) : WI N G h w (wr.drewN q) n bs A1 A3 EL BL := H.below (below_drewN (Below.refl _ _) q)
theorem WI.drew {N G n : Nat} {h : CodeH} {w wr : World} {bs BL : List Bool} {A1 A3 : Option Addr} {EL : List Int} (H : WI N G h w wr n bs A1 A3 EL BL) : WI N G h w wr.drew n bs A1 A3 EL BL := H.below ((Below.refl _ _).drew)
theorem own_lt {w : World} {base : Nat} {e : TypeId} {size n m cap G : Nat} {xs : List Value} (h : w.ownsRow base e size (.slice (some ⟨G, 0, none⟩) m cap) n xs) : G < w.heap.size := by
  rcases h.2 with ⟨h', _⟩ | ⟨g', cap', cur, h', _, hg, _⟩
  · simp at h'
  · have : G = g' := by simpa using congrArg (fun v => match v with | Value.slice (some a) _ _ => a.block | _ => 0) h'
    subst this
    exact (Array.getElem?_eq_some_iff.1 hg).1
theorem own_keep {w w' : World} {G : Nat} {e : TypeId} {size : Nat} {v : Value} {n : Nat} {xs : List Value} (h : w.ownsRow (G + 1) e size v n xs) (hg : w.grownBy w' (some G)) : w'.ownsRow (G + 1) e size v n xs := by
  refine h.kept hg ?_
  rcases h.2 with ⟨h', _⟩ | ⟨g, cap, cur, h', hb, _⟩
  · exact .inl (by rw [h']; rfl)
  · refine .inr ?_
    rw [h']
    simp only [Value.ownBlock, ne_eq, Option.some.injEq]
    omega
theorem asc_at {l : List Int} (h : l.Pairwise (· < ·)) {j : Nat} {y z : Int} (hy : l[j]? = some y) (hz : l[j + 1]? = some z) : y < z := by
  obtain ⟨h1, e1⟩ := List.getElem?_eq_some_iff.1 hy
  obtain ⟨h2, e2⟩ := List.getElem?_eq_some_iff.1 hz
  rw [← e1, ← e2]
  exact (List.pairwise_iff_getElem.1 h) j (j + 1) h1 h2 (by omega)
set_option maxHeartbeats 8000000 in
theorem CodeFlow_main (h : CodeH) (c : CodeD) (n : Int) (w : World) (H : CodeAt w w.heap.size h c) (hv : Vars w.heap.size w) (sa : smallB c = true) (hf : fineB c (largeB h) = true) (K : Nat) (hK : K < h.i.n) (hKd : (n < 0 ∧ K = 0) ∨ (0 ≤ n ∧ n % (h.i.n : Int) = (K : Int))) :
    Calls Tryz.prog 11 #[.agg #[.slice h.i.a h.i.n h.i.c, .slice h.p.a h.p.n h.p.c, .slice h.t.a h.t.n h.t.c, .slice h.s.a h.s.n h.s.c, .slice h.g.a h.g.n h.g.c, .slice h.r.a h.r.n h.r.c, .slice h.o.a h.o.n h.o.c], .int .i64 n] w fun e w' => e = .returned (.bool true) ∧ Below w.heap.size w w' := by
  have HC := Lib.hid H
  have HV := Lib.hid hv
  have HN := Lib.hid H.ni.1
  have II := Lib.hid (BInv.start h w 30)
  have SMA := Lib.hid sa
  have HF := Lib.hid hf
  obtain ⟨hl, W⟩ := fine_well hf
  obtain ⟨hn0, hn1, _⟩ := large_sizes hl
  have hn00 : 0 < c.instrs.length := by have := HN.out; omega
  have hL : (entL c).length ≤ h.i.n := by rw [HN.out]; exact ent_len W hn00
  have hRL : (rchL c).length = h.i.n := by rw [rchL_len, HN.out]
  have hEN : ∀ z ∈ entL c, ∃ e : Nat, z = e ∧ e < h.i.n ∧ (rchL c)[e]? = some true := fun z hz => by
    obtain ⟨e, rfl, he⟩ := ent_raw W hn00 z ((mem_cs _ _).1 hz)
    exact ⟨e, rfl, by rw [HN.out]; exact he, by rw [rchL_at he, decide_eq_true (Rch.ent e hz)]⟩
  have hAS : (entL c).Pairwise (· < ·) := cs_lt _
  obtain ⟨EL, hEL⟩ : ∃ l, entL c = l := ⟨_, rfl⟩
  obtain ⟨BL, hBL⟩ : ∃ l, rchL c = l := ⟨_, rfl⟩
  rw [hEL] at hL hEN hAS
  rw [hBL] at hRL hEN
  have XE := Lib.hid hEL
  have XB := Lib.hid hBL
  have HRL := Lib.hid hRL
  have HEN := Lib.hid hEN
  have HAS := Lib.hid hAS
  have HW := Lib.hid W
  have hrn : BL.length ≤ 20000 := by omega
  have hbn : ((BL.length : Int) != (h.i.n : Int)) = false := by simp; omega
  obtain ⟨i0, hi0, hz0, hz1, hz2⟩ := elemBools.i
  have HLJ : Hid (∀ g, largeD (joinD (haltH g) haltD c) = false) := Lib.hid (small_halt H.lens sa hn0)
  obtain ⟨xk, hxk⟩ : ∃ x, c.instrs[K]? = some x := ⟨_, List.getElem?_eq_getElem (by have := HN.out; omega)⟩
  have HXK := Lib.hid hxk
  obtain ⟨PL, hPL⟩ : ∃ l, nextL xk K h.i.n = l := ⟨_, rfl⟩
  have XP := Lib.hid hPL
  have hpl : PL.length ≤ 2 := by rw [← hPL]; exact next_len xk K _
  have HNX : Hid (∀ (z : Int), z = (K : Int) → ∀ W, CodeAt W W.heap.size h c → Calls Tryz.prog 33 #[.agg #[.slice h.i.a h.i.n h.i.c, .slice h.p.a h.p.n h.p.c, .slice h.t.a h.t.n h.t.c, .slice h.s.a h.s.n h.s.c, .slice h.g.a h.g.n h.g.c, .slice h.r.a h.r.n h.r.c, .slice h.o.a h.o.n h.o.c], .int .i64 z] W (RetIntsE W PL 0)) := Lib.hid (fun z hz W' hc => by
    subst hz
    have h1 := Next_ok h c W' hc K xk hxk hK hf
    rw [hPL] at h1
    exact h1)
  have HPB : Hid (∀ z ∈ PL, 0 ≤ z ∧ z ≤ 1000000) := Lib.hid (fun z hz => by
    rw [← hPL, HN.out] at hz
    obtain ⟨j, rfl, hj⟩ := next_pl W (List.mem_of_getElem? hxk) K z hz
    have := HN.out
    omega)
  have HNJ : Hid (∀ (g : Nat) (z : CodeH) (zz : Int), zz = (K : Int) + 1 → z.i.n = h.i.n + 1 → ∀ W, CodeAt W W.heap.size z (joinD (haltH g) haltD c) → Calls Tryz.prog 33 #[.agg #[.slice z.i.a z.i.n z.i.c, .slice z.p.a z.p.n z.p.c, .slice z.t.a z.t.n z.t.c, .slice z.s.a z.s.n z.s.c, .slice z.g.a z.g.n z.g.c, .slice z.r.a z.r.n z.r.c, .slice z.o.a z.o.n z.o.c], .int .i64 zz] W (RetIntsE W (PL.map (· + 1)) 0)) := Lib.hid (fun g z zz hzz hzn W' hz => by
    subst hzz
    have h1 := Next_ok z (joinD (haltH g) haltD c) W' hz (K + 1) (shI (haltH g) xk) (by show (haltD.instrs ++ c.instrs.map (shI (haltH g)))[K + 1]? = _; rw [List.getElem?_append_right (by simp [haltD])]; simp [haltD, hxk]) (by omega) (by
      rw [largeD_of hz, small_halt H.lens sa hn0 g]
      exact well_fine (well_join (halt_lens g) halt_well W))
    have h2 : nextL (shI (haltH g) xk) (K + 1) z.i.n = PL.map (· + 1) := by
      have := next_shift (h := haltH g) (b := c) (k := K) (x := xk) (by have := HN.out; omega)
      rw [hzn, HN.out, Nat.add_comm K 1, Nat.add_comm c.instrs.length 1]
      rw [← hPL, HN.out]
      exact this
    rw [h2] at h1
    exact h1)
  clear hxk hPL
  clear hEL hBL hf H hl W hRL hv sa hEN hAS hn00
  have y0 := II.out.c0; have y1 := II.out.c1; have y2 := II.out.c2; have y3 := II.out.c3; have y4 := II.out.c4; have y5 := II.out.c5; have y6 := II.out.c6
  go_enter Tryz.func11, Tryz.ntmps11
  go_wp2_with (first
    | (go_at_call 12; refine (small_any h c _ (HC.out.at II.out.b)).mono ?_; rintro e w1 ⟨rfl, hb⟩; replace II := Lib.hid (II.out.below hb); (try replace R1 := Lib.hid ((R1.out.below hb).more hb.size)); (try replace R3 := Lib.hid ((R3.out.below hb).more hb.size)); clear hb; clear y0 y1 y2 y3 y4 y5 y6; have y0 := II.out.c0; have y1 := II.out.c1; have y2 := II.out.c2; have y3 := II.out.c3; have y4 := II.out.c4; have y5 := II.out.c5; have y6 := II.out.c6; rw [SMA.out])
    | (go_at_call 34; refine ((Reached_ok h c _ (HC.out.at II.out.b) HF.out).mono fun _ _ => retBE).mono ?_; rintro e w1 ⟨A3, k3, rfl, hb, hr⟩; replace II := Lib.hid (II.out.below hb); (try replace R1 := Lib.hid ((R1.out.below hb).more hb.size)); (try replace R3 := Lib.hid ((R3.out.below hb).more hb.size)); clear hb; rw [XB.out] at hr; rw [XB.out]; have R3 := Lib.hid hr; clear hr; clear y0 y1 y2 y3 y4 y5 y6; have y0 := II.out.c0; have y1 := II.out.c1; have y2 := II.out.c2; have y3 := II.out.c3; have y4 := II.out.c4; have y5 := II.out.c5; have y6 := II.out.c6)
    | (go_at_call 32; refine ((Entries_ok h c _ (HC.out.at II.out.b) HF.out).mono fun _ _ => retSE).mono ?_; rintro e w1 ⟨A1, k1, rfl, hb, hr⟩; replace II := Lib.hid (II.out.below hb); (try replace R1 := Lib.hid ((R1.out.below hb).more hb.size)); (try replace R3 := Lib.hid ((R3.out.below hb).more hb.size)); clear hb; rw [XE.out] at hr; rw [XE.out]; have R1 := Lib.hid hr; clear hr; clear y0 y1 y2 y3 y4 y5 y6; have y0 := II.out.c0; have y1 := II.out.c1; have y2 := II.out.c2; have y3 := II.out.c3; have y4 := II.out.c4; have y5 := II.out.c5; have y6 := II.out.c6)
    | (at_make; refine wpList_make_full _ rfl _ _ 66 rfl w.heap.size 4 i0 (.bool false) 1 Tryz.underlying66 hi0 hz0 hz1 .i64 .i64 _ _ BL.length rfl rfl rfl rfl (by rw [hz2]; omega) (by unfold maxLen; omega) II.out.b.size ?_; intro w5 ho5 hg5; rw [made_bools] at ho5; obtain ⟨w4, hw4⟩ : ∃ w4 : World, w4 = w1 := ⟨_, rfl⟩; subst hw4; have hb5 := (Below.refl _ _).grown hg5 (Nat.le_refl _) (fun k hk => by cases hk); have hz9 : w4.heap.size < w5.heap.size := own_lt ho5; have WW : Hid (WI w.heap.size w4.heap.size h w w5 BL.length (List.replicate BL.length false) A1 A3 EL BL) := Lib.hid { ev := ⟨II.out.below hb5, II.out.z, hz9, ho5⟩, r1 := R1.out.below hb5, r3 := R3.out.below hb5 }; clear ho5 hg5 hb5 hz9 II R1 R3 y0 y1 y2 y3 y4 y5 y6))
  go_loopw [10] (fun i wr => ∃ k : Nat, k ≤ EL.length ∧ i = .int .i64 k ∧ ∃ bs, WI w.heap.size w4.heap.size h w wr BL.length bs A1 A3 EL BL ∧ FI BL.length bs (EL.take k)) (fun i _ => EL.length - (intOf i).toNat)
  case atStart => exact ⟨0, by omega, rfl, _, WW.out, FI.start _⟩
  case round =>
    obtain ⟨k, hk, rfl, bs, hW, hI⟩ := hrel
    clear WW
    have WW := Lib.hid hW
    have FF := Lib.hid hI
    clear hW hI
    by_cases hlt : k < EL.length
    · obtain ⟨a1, z, ha1, hz, _, c1⟩ := Reads.elem1 (f := Value.int .i64) WW.out.r1 rfl hlt
      obtain ⟨e, he, hen, hbe⟩ := HEN.out z (List.mem_of_getElem? hz)
      have hen2 : e < BL.length := by have := HRL.out; omega
      obtain ⟨a3, b3, ha3, hb3, _, c3⟩ := Reads.elem1 (f := Value.bool) WW.out.r3 rfl hen2
      rw [hbe] at hb3
      cases hb3
      have HZ := Lib.hid hz
      have HE := Lib.hid he
      have LS : Hid (EL.take (k + 1) = EL.take k ++ [(e : Int)]) := Lib.hid (by rw [List.take_add_one, hz, he]; rfl)
      rw [he] at c1
      subst ha1
      subst ha3
      have f0 := WW.out.ev.o.frozenAt e
      obtain ⟨b0, q0⟩ := WW.out.ev.at hen2
      have hi0' : (0 : Int) ≤ (k : Int) := by omega
      have hi1 : (k : Int) < (EL.length : Int) := by omega
      have he0 : (0 : Int) ≤ (e : Int) := by omega
      have he1 : (e : Int) < (BL.length : Int) := by omega
      have g1 : decide ((e : Int) < 0) = false := by simp
      have g2 : decide (BL.length ≤ e) = false := by simp; omega
      have g3 : decide ((BL.length : Int) ≤ (e : Int)) = false := by simp; omega
      clear hz he hbe
      rcases Nat.eq_zero_or_pos k with hk0 | hk0
      · have g5 : decide (0 < k) = false := by simp; omega
        have g6 : decide ((0 : Int) < (k : Int)) = false := by simp; omega
        clear hk0
        go_wp2
        go_quiet (fail)
        go_wp2
        go_roundw
        case rel => exact ⟨k + 1, by omega, by go_num, bs.set e true, (WW.out.drewN _).setB e true, by rw [LS.out]; exact FF.out.push hen2⟩
        case measure => simp [intOf]; omega
      · obtain ⟨j, hj⟩ : ∃ j, k = j + 1 := ⟨k - 1, by omega⟩
        obtain ⟨y, hy⟩ : ∃ y, EL[j]? = some y := ⟨_, List.getElem?_eq_getElem (by omega)⟩
        obtain ⟨a1', y', ha1', hy', _, c1'⟩ := Reads.elem1 (f := Value.int .i64) WW.out.r1 rfl (show j < EL.length by omega)
        cases ha1'
        rw [hy] at hy'
        cases hy'
        have hlt2 : y < (e : Int) := by rw [← HE.out]; exact asc_at HAS.out hy (by rw [← hj]; exact HZ.out)
        have g4 : decide ((e : Int) ≤ y) = false := by simp; omega
        have g5 : decide (0 < k) = true := by simp; omega
        have g6 : decide ((0 : Int) < (k : Int)) = true := by simp; omega
        have s1 : IntKind.i64.wrap ((k : Int) - 1) = (j : Int) := by rw [IntWalk.i64_in _ (by omega)]; omega
        have s2 : (k : Int) - 1 = (j : Int) := by omega
        have s3 : (0 : Int) ≤ (j : Int) := by omega
        have s4 : (j : Int) < (EL.length : Int) := by omega
        have HJ := Lib.hid hj
        clear hy hj
        go_wp2
        go_quiet (fail)
        clear s1 s2
        go_wp2
        go_roundw
        case rel => exact ⟨k + 1, by omega, by go_num, bs.set e true, (WW.out.drewN _).setB e true, by rw [LS.out]; exact FF.out.push hen2⟩
        case measure => simp [intOf]; omega
    · have F2 : Hid (FI BL.length bs (EL ++ folL c 0)) := Lib.hid (by have := FF.out; rw [List.take_of_length_le (by omega)] at this; simpa [folL] using this)
      have W2 := WW
      clear WW FF
      go_wp2
      go_loopw [11] (fun i wr => ∃ k : Nat, k ≤ BL.length ∧ i = .int .i64 k ∧ ∃ bs, WI w.heap.size w4.heap.size h w wr BL.length bs A1 A3 EL BL ∧ FI BL.length bs (EL ++ folL c k)) (fun i _ => BL.length - (intOf i).toNat)
      case atStart => exact ⟨0, by omega, rfl, bs, W2.out, F2.out⟩
      case round =>
        obtain ⟨k, hk, rfl, bs, hW, hI⟩ := hrel
        have WW := Lib.hid hW
        have FF := Lib.hid hI
        clear hW hI W2 F2
        by_cases hlt : k < BL.length
        · have hkh : k < h.i.n := by have := HRL.out; omega
          obtain ⟨x, hx⟩ : ∃ x, c.instrs[k]? = some x := ⟨_, List.getElem?_eq_getElem (by have := HN.out; omega)⟩
          have HX := Lib.hid hx
          have hNP : ∀ z ∈ nextL x k h.i.n, ∃ j : Nat, z = j ∧ j < BL.length ∧ (Rch c k → BL[j]? = some true) := fun z hz => by
            rw [HN.out] at hz
            obtain ⟨j, rfl, hj⟩ := next_pl HW.out (List.mem_of_getElem? hx) k z hz
            refine ⟨j, rfl, by have := HRL.out; have := HN.out; omega, fun hr => ?_⟩
            rw [← XB.out, rchL_at hj, decide_eq_true (Rch.step k j hr (by rw [nxL_at hx]; exact hz))]
          obtain ⟨rk, hrk⟩ : ∃ rk, decide (Rch c k) = rk := ⟨_, rfl⟩
          have hbk : BL[k]? = some rk := by rw [← XB.out, rchL_at (by have := HN.out; omega), hrk]
          have hfol : folL c (k + 1) = folL c k ++ (if rk then nextL x k h.i.n else []) := by
            rw [folL_succ, nxL_at hx, ← hrk, ← HN.out]
            by_cases hr : Rch c k <;> simp [hr]
          obtain ⟨NL, hNL⟩ : ∃ l, nextL x k h.i.n = l := ⟨_, rfl⟩
          have hnl : NL.length ≤ 2 := by rw [← hNL]; exact next_len x k _
          rw [hNL] at hNP hfol
          have XN := Lib.hid hNL
          have HNP := Lib.hid hNP
          have HBK := Lib.hid hbk
          have HFOL := Lib.hid hfol
          have HRK := Lib.hid hrk
          clear hx hNP hrk hbk hfol hNL
          have II := Lib.hid WW.out.ev.x
          have y0 := II.out.c0; have y1 := II.out.c1; have y2 := II.out.c2; have y3 := II.out.c3; have y4 := II.out.c4; have y5 := II.out.c5; have y6 := II.out.c6
          go_wp2_with (first
            | (go_at_call 33; refine (Next_ok h c _ (HC.out.at II.out.b) k x HX.out hkh HF.out).mono ?_; rintro e w6 ⟨v6, rfl, ho6, hb6⟩; obtain ⟨A2, k2, rfl⟩ := own_form ho6; rw [XN.out] at ho6; rw [XN.out]; have O6 : Hid (w6.ownsRow (w4.heap.size + 1) 3 1 (.slice A2 NL.length k2) NL.length (intCells NL)) := Lib.hid (own_mono ho6 WW.out.ev.z); replace WW := Lib.hid (WW.out.below hb6); clear ho6 hb6 II y0 y1 y2 y3 y4 y5 y6))
          obtain ⟨wo, hwo⟩ : ∃ wo : World, wo = wr := ⟨_, rfl⟩
          subst hwo
          go_loopw [14] (fun i wr => ∃ m : Nat, m ≤ NL.length ∧ i = .int .i64 m ∧ ∃ bs, WI w.heap.size w4.heap.size h w wr BL.length bs A1 A3 EL BL ∧ FI BL.length bs (EL ++ folL c k ++ (if rk then NL.take m else [])) ∧ wr.ownsRow (w4.heap.size + 1) 3 1 (.slice A2 NL.length k2) NL.length (intCells NL)) (fun i _ => NL.length - (intOf i).toNat)
          case atStart => exact ⟨0, by omega, rfl, bs, WW.out, by have := FF.out; cases rk <;> simpa using this, O6.out⟩
          case round =>
            obtain ⟨m, hm, rfl, bs', hW', hI', hO'⟩ := hrel
            clear WW FF O6
            have WW := Lib.hid hW'
            have FF := Lib.hid hI'
            have O6 := Lib.hid hO'
            clear hW' hI' hO'
            by_cases hlt2 : m < NL.length
            · obtain ⟨a2, z, ha2, hz, _, c2⟩ := Reads.elem1 (f := Value.int .i64) (Reads.of_own O6.out) rfl hlt2
              obtain ⟨j, hj, hjn, hjr⟩ := HNP.out z (List.mem_of_getElem? hz)
              obtain ⟨a3, b3, ha3, hb3, _, c3⟩ := Reads.elem1 (f := Value.bool) WW.out.r3 rfl hlt
              rw [HBK.out] at hb3
              cases hb3
              obtain ⟨a3', bj, ha3', hbj, _, c3j⟩ := Reads.elem1 (f := Value.bool) WW.out.r3 rfl hjn
              rw [ha3] at ha3'
              cases ha3'
              have hrj : rk = true → bj = true := fun hr => by
                have := hjr (of_decide_eq_true (HRK.out.trans hr))
                rw [hbj] at this
                exact Option.some.inj this
              obtain ⟨cj, hcj⟩ : ∃ cj, bs'[j]? = some cj := ⟨_, List.getElem?_eq_getElem (by rw [FF.out.l]; exact hjn)⟩
              have q0 := WW.out.ev.cell hcj
              have f0 := WW.out.ev.o.frozenAt j
              have LS : Hid (NL.take (m + 1) = NL.take m ++ [(j : Int)]) := Lib.hid (by rw [List.take_add_one, hz, hj]; rfl)
              have FS := Lib.hid (FF.out.setB (j := j) (cj := cj) (b := rk) (M := EL ++ folL c k ++ (if rk then NL.take (m + 1) else [])) hjn hcj (by cases rk <;> simp [LS.out]))
              rw [hj] at c2
              subst ha2
              subst ha3
              have hi0' : (0 : Int) ≤ (m : Int) := by omega
              have hi1 : (m : Int) < (NL.length : Int) := by omega
              have hk0 : (0 : Int) ≤ (k : Int) := by omega
              have hk1 : (k : Int) < (BL.length : Int) := by omega
              have he0 : (0 : Int) ≤ (j : Int) := by omega
              have he1 : (j : Int) < (BL.length : Int) := by omega
              have g1 : decide ((j : Int) < 0) = false := by simp
              have g2 : decide (BL.length ≤ j) = false := by simp; omega
              have g3 : decide ((BL.length : Int) ≤ (j : Int)) = false := by simp; omega
              clear hz hj hcj hbj hjr
              cases rk with
              | true =>
                obtain rfl := hrj rfl
                clear hrj
                cases cj with
                | true =>
                  go_wp2
                  refine wp_region_still_tail 19 (by kernel_rfl) (by kernel_rfl) ?_
                  simp only [List.take_succ_cons, List.take_zero, List.drop_succ_cons, List.drop_zero]
                  change wpStill _ _ wr.drew _ _ _
                  repeat still_step
                  refine wpStill_nil ?_
                  change wpList _ _ _ _ _ wr.drew
                  go_wp2
                  go_roundw
                  case rel => exact ⟨m + 1, by omega, by go_num, bs'.set j true, WW.out.drew.setB j true, FS.out, own_keep (own_below O6.out ((Below.refl _ _).drew)) (WW.out.drew.ev.o.stored j (.bool true)).2⟩
                  case measure => simp [intOf]; omega
                | false =>
                  go_wp2
                  refine wp_region_still_tail 19 (by kernel_rfl) (by kernel_rfl) ?_
                  simp only [List.take_succ_cons, List.take_zero, List.drop_succ_cons, List.drop_zero]
                  change wpStill _ _ wr.drew _ _ _
                  repeat still_step
                  refine wpStill_nil ?_
                  change wpList _ _ _ _ _ wr.drew
                  go_wp2
                  go_roundw
                  case rel => exact ⟨m + 1, by omega, by go_num, bs'.set j true, WW.out.drew.setB j true, FS.out, own_keep (own_below O6.out ((Below.refl _ _).drew)) (WW.out.drew.ev.o.stored j (.bool true)).2⟩
                  case measure => simp [intOf]; omega
              | false =>
                clear hrj
                cases cj with
                | true =>
                  go_wp2
                  refine wp_region_still_tail 19 (by kernel_rfl) (by kernel_rfl) ?_
                  simp only [List.take_succ_cons, List.take_zero, List.drop_succ_cons, List.drop_zero]
                  change wpStill _ _ wr.drew _ _ _
                  repeat still_step
                  refine wpStill_nil ?_
                  change wpList _ _ _ _ _ wr.drew
                  go_wp2
                  go_roundw
                  case rel => exact ⟨m + 1, by omega, by go_num, bs'.set j true, WW.out.drew.setB j true, FS.out, own_keep (own_below O6.out ((Below.refl _ _).drew)) (WW.out.drew.ev.o.stored j (.bool true)).2⟩
                  case measure => simp [intOf]; omega
                | false =>
                  go_wp2
                  refine wp_region_still_tail 19 (by kernel_rfl) (by kernel_rfl) ?_
                  simp only [List.take_succ_cons, List.take_zero, List.drop_succ_cons, List.drop_zero]
                  change wpStill _ _ wr.drew _ _ _
                  repeat still_step
                  refine wpStill_nil ?_
                  change wpList _ _ _ _ _ wr.drew
                  go_wp2
                  go_roundw
                  case rel => exact ⟨m + 1, by omega, by go_num, bs'.set j false, WW.out.drew.setB j false, FS.out, own_keep (own_below O6.out ((Below.refl _ _).drew)) (WW.out.drew.ev.o.stored j (.bool false)).2⟩
                  case measure => simp [intOf]; omega
            · have F3 : Hid (FI BL.length bs' (EL ++ folL c (k + 1))) := Lib.hid (by
                rw [HFOL.out, ← List.append_assoc]
                have h1 := FF.out
                rw [List.take_of_length_le (by omega)] at h1
                exact h1)
              go_wp2
              go_roundw
              case rel => exact ⟨k + 1, by omega, by go_num, bs', WW.out, F3.out⟩
              case measure => simp [intOf]; omega
        · have hbs : bs = BL := by
            have h1 := FF.out
            rw [show k = BL.length by omega, show BL.length = c.instrs.length by have := HRL.out; have := HN.out; omega, ← XE.out] at h1
            exact (h1.flow HW.out (by have := HN.out; omega)).trans XB.out
          subst hbs
          have W2 := WW
          clear WW FF
          go_wp2
          go_loopw [15] (fun i wr => ∃ k : Nat, k ≤ bs.length ∧ i = .int .i64 k ∧ WI w.heap.size w4.heap.size h w wr bs.length bs A1 A3 EL bs) (fun i _ => bs.length - (intOf i).toNat)
          case atStart => exact ⟨0, by omega, rfl, W2.out⟩
          case round =>
            obtain ⟨k, hk, rfl, hW⟩ := hrel
            have WW := Lib.hid hW
            clear hW W2
            by_cases hlt : k < bs.length
            · obtain ⟨a3, b, ha3, hb, _, c3⟩ := Reads.elem1 (f := Value.bool) WW.out.r3 rfl hlt
              have q0 := WW.out.ev.cell hb
              subst ha3
              have hk0 : (0 : Int) ≤ (k : Int) := by omega
              have hk1 : (k : Int) < (bs.length : Int) := by omega
              have hbb : (b != b) = false := by cases b <;> rfl
              clear hb
              go_wp2
              go_quiet (fail)
              go_wp2
              go_roundw
              case rel => exact ⟨k + 1, by omega, by go_num, WW.out.drewN _⟩
              case measure => simp [intOf]; omega
            · have II := Lib.hid WW.out.ev.x
              clear WW
              have a0 := fun o => (II.out.alloc o).c0; have a1 := fun o => (II.out.alloc o).c1; have a2 := fun o => (II.out.alloc o).c2; have a3 := fun o => (II.out.alloc o).c3; have a4 := fun o => (II.out.alloc o).c4; have a5 := fun o => (II.out.alloc o).c5; have a6 := fun o => (II.out.alloc o).c6
              have y0 := II.out.c0; have y1 := II.out.c1; have y2 := II.out.c2; have y3 := II.out.c3; have y4 := II.out.c4; have y5 := II.out.c5; have y6 := II.out.c6
              rcases hKd with ⟨hK0, hK1⟩ | ⟨hK0, hK1⟩
              · have HKK := Lib.hid hK1
                have d1 : decide (0 ≤ n) = false := by simp; omega
                have d2 : decide (n < 0) = true := by simp; omega
                clear hK1
                go_wp2_with (first
                  | (go_at_call 18; refine (Join_ok (haltH wr.heap.size) h haltD c _ (halt_at (heap_alloc_new wr _)) (HC.out.at (II.out.alloc _).b) (halt_fine _) HF.out).mono ?_; rintro e w7 hJ; obtain ⟨z, he, hz, hb⟩ := halt_join HLJ.out hJ; subst he; unfold CodeH.v; have HZ := Lib.hid hz; have X8 := Lib.hid (BInv.start z w7 30); replace II := Lib.hid (((II.out.alloc _).below hb).alloc (.cells #[.slice z.i.a z.i.n z.i.c, .slice z.p.a z.p.n z.p.c, .slice z.t.a z.t.n z.t.c, .slice z.s.a z.s.n z.s.c, .slice z.g.a z.g.n z.g.c, .slice z.r.a z.r.n z.r.c, .slice z.o.a z.o.n z.o.c] 30)); have hzn : z.i.n = h.i.n + 1 := (by have h1 := hz.ni.1; rw [join_n (halt_lens _), ← HN.out] at h1; simp [haltH] at h1; omega); have hzb : ((z.i.n : Int) != (h.i.n : Int) + 1) = false := (by rw [hzn]; simp); have HZN := Lib.hid hzn; clear hzn hz hb hJ a0 a1 a2 a3 a4 a5 a6; clear y0 y1 y2 y3 y4 y5 y6; have y0 := II.out.c0; have y1 := II.out.c1; have y2 := II.out.c2; have y3 := II.out.c3; have y4 := II.out.c4; have y5 := II.out.c5; have y6 := II.out.c6; have x0 := X8.out.c0; have x1 := X8.out.c1; have x2 := X8.out.c2; have x3 := X8.out.c3; have x4 := X8.out.c4; have x5 := X8.out.c5; have x6 := X8.out.c6)
                  | (go_at_call 33; have T := T9; refine (HNJ.out _ z _ (by rw [HKK.out]; rfl) HZN.out _ (HZ.out.at X8.out.b)).mono ?_; rintro e w10 ⟨v10, rfl, ho10, hb10⟩; obtain ⟨A6, k6, rfl⟩ := own_form ho10; have R6 := Lib.hid (Reads.of_own ho10); replace R5 := Lib.hid ((R5.out.below hb10).more hb10.size); replace II := Lib.hid (II.out.below hb10); clear ho10 hb10; clear x0 x1 x2 x3 x4 x5 x6)
                  | (go_at_call 33; refine (HNX.out _ (by rw [HKK.out]; rfl) _ (HC.out.at II.out.b)).mono ?_; rintro e w9 ⟨v9, rfl, ho9, hb9⟩; obtain ⟨A5, k5, rfl⟩ := own_form ho9; have R5 := Lib.hid (Reads.of_own ho9); replace II := Lib.hid (II.out.below hb9); replace X8 := Lib.hid (X8.out.below hb9); have T9 := trivial; clear ho9 hb9; clear x0 x1 x2 x3 x4 x5 x6; clear y0 y1 y2 y3 y4 y5 y6; have x0 := X8.out.c0; have x1 := X8.out.c1; have x2 := X8.out.c2; have x3 := X8.out.c3; have x4 := X8.out.c4; have x5 := X8.out.c5; have x6 := X8.out.c6)
                  | (go_at_call 13; refine (sanity_ok _ (HV.out.at II.out.b II.out.b.size)).mono ?_; rintro e w11 ⟨rfl, hb⟩; replace II := Lib.hid (II.out.below hb); replace R5 := Lib.hid ((R5.out.below hb).more hb.size); replace R6 := Lib.hid ((R6.out.below hb).more hb.size); clear hb)
                  | (go_at_call 40; refine (moved_any A5 PL.length k5 PL 1 _ R5.out (by omega) (by omega) HPB.out).mono ?_; rintro e w12 ⟨v12, rfl, ho12, hb12⟩; obtain ⟨A7, k7, rfl⟩ := own_form ho12; have R7 := Lib.hid (Reads.of_own ho12); replace R6 := Lib.hid ((R6.out.below hb12).more hb12.size); replace II := Lib.hid (II.out.below hb12); clear ho12 hb12)
                  | (go_at_call 39; refine (equal_any A6 A7 PL.length k6 PL.length k7 (PL.map (· + 1)) (PL.map (· + 1)) _ (by have h1 := R6.out; rw [List.length_map] at h1; exact h1) (by have h1 := R7.out; rw [List.length_map] at h1; exact h1) (by omega)).mono ?_; rintro e w13 ⟨rfl, hb⟩; replace II := Lib.hid (II.out.below hb); clear hb; rw [show (PL.map (· + 1) == PL.map (· + 1)) = true from beq_self_eq_true _]))
                go_ret
                exact ⟨rfl, II.out.b⟩
              · obtain ⟨m, rfl⟩ := Int.eq_ofNat_of_zero_le hK0
                have hm1 : ((h.i.n : Int) == 0) = false := by simp; omega
                clear hK0
                go_wp2_with (first
                  | (go_at_call 18; refine (Join_ok (haltH wr.heap.size) h haltD c _ (halt_at (heap_alloc_new wr _)) (HC.out.at (II.out.alloc _).b) (halt_fine _) HF.out).mono ?_; rintro e w7 hJ; obtain ⟨z, he, hz, hb⟩ := halt_join HLJ.out hJ; subst he; unfold CodeH.v; have HZ := Lib.hid hz; have X8 := Lib.hid (BInv.start z w7 30); replace II := Lib.hid (((II.out.alloc _).below hb).alloc (.cells #[.slice z.i.a z.i.n z.i.c, .slice z.p.a z.p.n z.p.c, .slice z.t.a z.t.n z.t.c, .slice z.s.a z.s.n z.s.c, .slice z.g.a z.g.n z.g.c, .slice z.r.a z.r.n z.r.c, .slice z.o.a z.o.n z.o.c] 30)); have hzn : z.i.n = h.i.n + 1 := (by have h1 := hz.ni.1; rw [join_n (halt_lens _), ← HN.out] at h1; simp [haltH] at h1; omega); have hzb : ((z.i.n : Int) != (h.i.n : Int) + 1) = false := (by rw [hzn]; simp); have HZN := Lib.hid hzn; clear hzn hz hb hJ a0 a1 a2 a3 a4 a5 a6; clear y0 y1 y2 y3 y4 y5 y6; have y0 := II.out.c0; have y1 := II.out.c1; have y2 := II.out.c2; have y3 := II.out.c3; have y4 := II.out.c4; have y5 := II.out.c5; have y6 := II.out.c6; have x0 := X8.out.c0; have x1 := X8.out.c1; have x2 := X8.out.c2; have x3 := X8.out.c3; have x4 := X8.out.c4; have x5 := X8.out.c5; have x6 := X8.out.c6)
                  | (go_at_call 33; have T := T9; refine (HNJ.out _ z _ (by first | omega | (rw [IntWalk.i64_in _ (by omega)]; omega)) HZN.out _ (HZ.out.at X8.out.b)).mono ?_; rintro e w10 ⟨v10, rfl, ho10, hb10⟩; obtain ⟨A6, k6, rfl⟩ := own_form ho10; have R6 := Lib.hid (Reads.of_own ho10); replace R5 := Lib.hid ((R5.out.below hb10).more hb10.size); replace II := Lib.hid (II.out.below hb10); clear ho10 hb10; clear x0 x1 x2 x3 x4 x5 x6)
                  | (go_at_call 33; refine (HNX.out _ (by first | omega | (rw [IntWalk.i64_in _ (by omega)]; omega)) _ (HC.out.at II.out.b)).mono ?_; rintro e w9 ⟨v9, rfl, ho9, hb9⟩; obtain ⟨A5, k5, rfl⟩ := own_form ho9; have R5 := Lib.hid (Reads.of_own ho9); replace II := Lib.hid (II.out.below hb9); replace X8 := Lib.hid (X8.out.below hb9); have T9 := trivial; clear ho9 hb9; clear x0 x1 x2 x3 x4 x5 x6; clear y0 y1 y2 y3 y4 y5 y6; have x0 := X8.out.c0; have x1 := X8.out.c1; have x2 := X8.out.c2; have x3 := X8.out.c3; have x4 := X8.out.c4; have x5 := X8.out.c5; have x6 := X8.out.c6)
                  | (go_at_call 13; refine (sanity_ok _ (HV.out.at II.out.b II.out.b.size)).mono ?_; rintro e w11 ⟨rfl, hb⟩; replace II := Lib.hid (II.out.below hb); replace R5 := Lib.hid ((R5.out.below hb).more hb.size); replace R6 := Lib.hid ((R6.out.below hb).more hb.size); clear hb)
                  | (go_at_call 40; refine (moved_any A5 PL.length k5 PL 1 _ R5.out (by omega) (by omega) HPB.out).mono ?_; rintro e w12 ⟨v12, rfl, ho12, hb12⟩; obtain ⟨A7, k7, rfl⟩ := own_form ho12; have R7 := Lib.hid (Reads.of_own ho12); replace R6 := Lib.hid ((R6.out.below hb12).more hb12.size); replace II := Lib.hid (II.out.below hb12); clear ho12 hb12)
                  | (go_at_call 39; refine (equal_any A6 A7 PL.length k6 PL.length k7 (PL.map (· + 1)) (PL.map (· + 1)) _ (by have h1 := R6.out; rw [List.length_map] at h1; exact h1) (by have h1 := R7.out; rw [List.length_map] at h1; exact h1) (by omega)).mono ?_; rintro e w13 ⟨rfl, hb⟩; replace II := Lib.hid (II.out.below hb); clear hb; rw [show (PL.map (· + 1) == PL.map (· + 1)) = true from beq_self_eq_true _]))
                go_ret
                exact ⟨rfl, II.out.b⟩
theorem CodeFlow_any (h : CodeH) (c : CodeD) (n : Int) (w : World) (H : CodeAt w w.heap.size h c) (hv : Vars w.heap.size w) :
    Calls Tryz.prog 11 #[.agg #[.slice h.i.a h.i.n h.i.c, .slice h.p.a h.p.n h.p.c, .slice h.t.a h.t.n h.t.c, .slice h.s.a h.s.n h.s.c, .slice h.g.a h.g.n h.g.c, .slice h.r.a h.r.n h.r.c, .slice h.o.a h.o.n h.o.c], .int .i64 n] w fun e w' => e = .returned (.bool true) ∧ Below w.heap.size w w' := by
  cases sa : smallB c with
  | false =>
    have HC := Lib.hid H
    have HV := Lib.hid hv
    have II := Lib.hid (BInv.start h w 30)
    have SMA := Lib.hid sa
    clear sa H hv
    have y0 := II.out.c0; have y1 := II.out.c1; have y2 := II.out.c2; have y3 := II.out.c3; have y4 := II.out.c4; have y5 := II.out.c5; have y6 := II.out.c6
    go_enter Tryz.func11, Tryz.ntmps11
    go_wp2_with (first
      | (go_at_call 12; refine (small_any h c _ (HC.out.at II.out.b)).mono ?_; rintro e w1 ⟨rfl, hb⟩; replace II := Lib.hid (II.out.below hb); (try replace R1 := Lib.hid ((R1.out.below hb).more hb.size)); (try replace R3 := Lib.hid ((R3.out.below hb).more hb.size)); clear hb; clear y0 y1 y2 y3 y4 y5 y6; have y0 := II.out.c0; have y1 := II.out.c1; have y2 := II.out.c2; have y3 := II.out.c3; have y4 := II.out.c4; have y5 := II.out.c5; have y6 := II.out.c6; rw [SMA.out])
      | (go_at_call 13; refine (sanity_ok _ (HV.out.at II.out.b II.out.b.size)).mono ?_; rintro e w1 ⟨rfl, hb⟩; replace II := Lib.hid (II.out.below hb); (try replace R1 := Lib.hid ((R1.out.below hb).more hb.size)); (try replace R3 := Lib.hid ((R3.out.below hb).more hb.size)); clear hb; clear y0 y1 y2 y3 y4 y5 y6; have y0 := II.out.c0; have y1 := II.out.c1; have y2 := II.out.c2; have y3 := II.out.c3; have y4 := II.out.c4; have y5 := II.out.c5; have y6 := II.out.c6))
    go_ret
    exact ⟨rfl, II.out.b⟩
  | true =>
    cases hf : fineB c (largeB h) with
    | false =>
      have HC := Lib.hid H
      have HV := Lib.hid hv
      have II := Lib.hid (BInv.start h w 30)
      have SMA := Lib.hid sa
      have HF := Lib.hid hf
      clear sa hf H hv
      have y0 := II.out.c0; have y1 := II.out.c1; have y2 := II.out.c2; have y3 := II.out.c3; have y4 := II.out.c4; have y5 := II.out.c5; have y6 := II.out.c6
      go_enter Tryz.func11, Tryz.ntmps11
      go_wp2_with (first
        | (go_at_call 12; refine (small_any h c _ (HC.out.at II.out.b)).mono ?_; rintro e w1 ⟨rfl, hb⟩; replace II := Lib.hid (II.out.below hb); (try replace R1 := Lib.hid ((R1.out.below hb).more hb.size)); (try replace R3 := Lib.hid ((R3.out.below hb).more hb.size)); clear hb; clear y0 y1 y2 y3 y4 y5 y6; have y0 := II.out.c0; have y1 := II.out.c1; have y2 := II.out.c2; have y3 := II.out.c3; have y4 := II.out.c4; have y5 := II.out.c5; have y6 := II.out.c6; rw [SMA.out])
        | (go_at_call 34; refine ((Reached_bad h c _ (HC.out.at II.out.b) HF.out).mono fun _ _ => retBE).mono ?_; rintro e w1 ⟨A3, k3, rfl, hb, hr⟩; replace II := Lib.hid (II.out.below hb); (try replace R1 := Lib.hid ((R1.out.below hb).more hb.size)); (try replace R3 := Lib.hid ((R3.out.below hb).more hb.size)); clear hb; clear y0 y1 y2 y3 y4 y5 y6; have y0 := II.out.c0; have y1 := II.out.c1; have y2 := II.out.c2; have y3 := II.out.c3; have y4 := II.out.c4; have y5 := II.out.c5; have y6 := II.out.c6; clear hr)
        | (go_at_call 32; refine ((Entries_bad h c _ (HC.out.at II.out.b) HF.out).mono fun _ _ => retSE).mono ?_; rintro e w1 ⟨A1, k1, rfl, hb, hr⟩; replace II := Lib.hid (II.out.below hb); (try replace R1 := Lib.hid ((R1.out.below hb).more hb.size)); (try replace R3 := Lib.hid ((R3.out.below hb).more hb.size)); clear hb; clear y0 y1 y2 y3 y4 y5 y6; have y0 := II.out.c0; have y1 := II.out.c1; have y2 := II.out.c2; have y3 := II.out.c3; have y4 := II.out.c4; have y5 := II.out.c5; have y6 := II.out.c6; clear hr)
        | (go_at_call 13; refine (sanity_ok _ (HV.out.at II.out.b II.out.b.size)).mono ?_; rintro e w1 ⟨rfl, hb⟩; replace II := Lib.hid (II.out.below hb); (try replace R1 := Lib.hid ((R1.out.below hb).more hb.size)); (try replace R3 := Lib.hid ((R3.out.below hb).more hb.size)); clear hb; clear y0 y1 y2 y3 y4 y5 y6; have y0 := II.out.c0; have y1 := II.out.c1; have y2 := II.out.c2; have y3 := II.out.c3; have y4 := II.out.c4; have y5 := II.out.c5; have y6 := II.out.c6))
      go_ret
      exact ⟨rfl, II.out.b⟩
    | true =>
      have h1 := H.ni.1
      obtain ⟨hl, _⟩ := fine_well hf
      obtain ⟨hn0, _, _⟩ := large_sizes hl
      by_cases hn : n < 0
      · exact CodeFlow_main h c n w H hv sa hf 0 hn0 (.inl ⟨hn, rfl⟩)
      · obtain ⟨m, rfl⟩ := Int.eq_ofNat_of_zero_le (show 0 ≤ n by omega)
        exact CodeFlow_main h c m w H hv sa hf (m % h.i.n) (Nat.mod_lt _ hn0) (.inr ⟨by omega, (Int.natCast_emod m h.i.n).symm⟩)
end Go.Proofs.YtmfnholhhakgaaaGreatDoor
