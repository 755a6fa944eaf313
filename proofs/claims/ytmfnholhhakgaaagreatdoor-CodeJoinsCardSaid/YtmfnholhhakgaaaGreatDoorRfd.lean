/- The reference of chapter 14: the tables of a code, Check and Valid: contracts: they answer as the program's do. -/
import Derived.Test.YtmfnholhhakgaaaGreatDoorRfc
namespace Go.Proofs.YtmfnholhhakgaaaGreatDoor
open Go Go.Proofs Go.RowKit Go.Sort
set_option maxRecDepth 100000
theorem BInv.drew {N : Nat} {h : CodeH} {w wr : World} (H : BInv N h w wr) : BInv N h w wr.drew := H.to ((Below.refl _ _).drew)
/-- A code in a box (block N), a thunk in block M. -/
structure KInv (N M : Nat) (h : CodeH) (x : ThunkD) (w wr : World) : Prop where
  b : BInv N h w wr
  z : M < wr.heap.size
  d0 : wr.cell? ⟨M, 0, none⟩ = some (.int .i64 x.value)
  d1 : wr.cell? ⟨M, 1, none⟩ = some (.int .i64 x.address)
  d2 : wr.cell? ⟨M, 2, none⟩ = some (.int .i64 x.desig)
theorem KInv.below {N M : Nat} {h : CodeH} {x : ThunkD} {w wr wx : World} (H : KInv N M h x w wr) (hb : Below wr.heap.size wr wx) : KInv N M h x w wx :=
  { b := H.b.below hb, z := Nat.lt_of_lt_of_le H.z hb.size
    d0 := (hb.cell (p := ⟨M, 0, none⟩) H.z).trans H.d0, d1 := (hb.cell (p := ⟨M, 1, none⟩) H.z).trans H.d1, d2 := (hb.cell (p := ⟨M, 2, none⟩) H.z).trans H.d2 }
theorem KInv.start {N : Nat} {h : CodeH} {w wr : World} (x : ThunkD) (H : BInv N h w wr) : KInv N wr.heap.size h x w (wr.alloc (.cells #[.int .i64 x.value, .int .i64 x.address, .int .i64 x.desig] 94)) := by
  have hn : ∀ (cs : Array Value) t i, (wr.alloc (.cells cs t)).cell? ⟨wr.heap.size, i, none⟩ = cs[i]? := fun cs t i => cell_of_row _ wr.heap.size _ _ t (0, 0) (heap_alloc_new wr _)
  exact { b := H.alloc _, z := by simp, d0 := hn _ _ _, d1 := hn _ _ _, d2 := hn _ _ _ }
theorem thunkBadV {I : Nat} {x : ThunkD} (h : placeOk I x.value = false) : thunkOk I x = false := by unfold thunkOk; simp [h]
theorem thunkBadA {I : Nat} {x : ThunkD} (h : placeOk I x.address = false) : thunkOk I x = false := by unfold thunkOk; simp [h]
theorem thunkBadD {I : Nat} {x : ThunkD} (h : placeOk I x.desig = false) : thunkOk I x = false := by unfold thunkOk; simp [h]
theorem ownOk_wi (n : Int) : wiB n 0 3 = ownOk n := by
  unfold ownOk tyB wiB
  rw [Bool.eq_iff_iff]
  simp
  omega
set_option maxHeartbeats 16000000 in
theorem rtables_any (h : CodeH) (c : CodeD) (w : World) (H : CodeAt w w.heap.size h c) : Calls Tryz.prog 46 #[.agg #[.slice h.i.a h.i.n h.i.c, .slice h.p.a h.p.n h.p.c, .slice h.t.a h.t.n h.t.c, .slice h.s.a h.s.n h.s.c, .slice h.g.a h.g.n h.g.c, .slice h.r.a h.r.n h.r.c, .slice h.o.a h.o.n h.o.c]] w
    fun e w' => e = .returned (.tuple #[.int .i64 (tabErr c), .int .i64 (tabAt c)]) ∧ Below w.heap.size w w' := by
  have B0 := Lib.hid (BInv.start h w 30)
  have HI : Small h.i.n := H.ni.2
  unfold Small at HI
  have HC := Lib.hid H
  have HL : Hid (h.i.n = c.instrs.length) := Lib.hid H.ni.1
  clear H
  go_enter Tryz.func46, Tryz.ntmps46
  go_wp2
  go_loopw [4] (fun i wr => ∃ k : Nat, k ≤ h.p.n ∧ i = .int .i64 k ∧ BInv w.heap.size h w wr ∧ ∀ (j : Nat) (y : ProcD), j < k → c.procs[j]? = some y → procOk h.i.n y = true) (fun i _ => h.p.n - (intOf i).toNat)
  case atStart => exact ⟨0, by omega, rfl, B0.out, fun j y hj => by omega⟩
  case round =>
    obtain ⟨k, hk, rfl, hT, hno⟩ := hrel
    have BB := Lib.hid hT
    have HNO := Lib.hid hno
    clear hno hT B0
    have y0 := BB.out.c0; have y1 := BB.out.c1; have y2 := BB.out.c2; have y3 := BB.out.c3; have y4 := BB.out.c4; have y5 := BB.out.c5; have y6 := BB.out.c6
    by_cases hlt : k < h.p.n
    · have hn : h.p.n ≤ 140737488351232 := HC.out.np.2
      obtain ⟨ad, x, had, hx, hab, hc⟩ := Reads.elem (f := ProcD.cells) (fun _ => rfl) (HC.out.p.below BB.out.b) HC.out.np.1 hlt
      have c0 := hc 0 _ (by omega) rfl
      have c1 := hc 1 _ (by omega) rfl
      have c2 := hc 2 _ (by omega) rfl
      have c3 := hc 3 _ (by omega) rfl
      have c4 := hc 4 _ (by omega) rfl
      rw [show (ad.add (k * 5)).add 0 = ad.add (k * 5) from rfl] at c0
      rw [show (ad.add (k * 5)).add 1 = { block := (ad.add (k * 5)).block, off := (ad.add (k * 5)).off + 1 } from rfl] at c1
      rw [show (ad.add (k * 5)).add 2 = { block := (ad.add (k * 5)).block, off := (ad.add (k * 5)).off + 2 } from rfl] at c2
      rw [show (ad.add (k * 5)).add 3 = { block := (ad.add (k * 5)).block, off := (ad.add (k * 5)).off + 3 } from rfl] at c3
      rw [show (ad.add (k * 5)).add 4 = { block := (ad.add (k * 5)).block, off := (ad.add (k * 5)).off + 4 } from rfl] at c4
      rw [had] at y1
      have HX := Lib.hid hx
      have hi1 : (k : Int) < (h.p.n : Int) := by omega
      have hi0 : (0 : Int) ≤ (k : Int) := by omega
      have HP := Lib.hid (fun W => rproc_any h x W HI)
      rw [had] at HP
      clear hc hx hab had
      cases hok : procOk h.i.n x with
      | true =>
        have HOK := Lib.hid hok
        go_wp2
        refine wp_region_still_tail 6 (by kernel_rfl) (by kernel_rfl) ?_
        simp only [List.take_succ_cons, List.take_zero, List.drop_succ_cons, List.drop_zero]
        change wpStill _ _ wr.drew _ _ _
        repeat still_step
        refine wpStill_nil ?_
        change wpList _ _ _ _ _ wr.drew
        go_wp2_with (go_at_call 102; refine (HP.out _).mono ?_; rintro e w5 ⟨rfl, hb5⟩; have B5 := Lib.hid (BB.out.drew.below hb5); clear hb5)
        go_roundw
        case rel => exact ⟨k + 1, by omega, by go_num, B5.out, upto_succ HX.out HOK.out HNO.out⟩
        case measure => simp [intOf]; omega
      | false =>
        have HOK := Lib.hid hok
        go_wp2
        refine wp_region_still_tail 6 (by kernel_rfl) (by kernel_rfl) ?_
        simp only [List.take_succ_cons, List.take_zero, List.drop_succ_cons, List.drop_zero]
        change wpStill _ _ wr.drew _ _ _
        repeat still_step
        refine wpStill_nil ?_
        change wpList _ _ _ _ _ wr.drew
        go_wp2_with (go_at_call 102; refine (HP.out _).mono ?_; rintro e w5 ⟨rfl, hb5⟩; have B5 := Lib.hid (BB.out.drew.below hb5); clear hb5)
        have hh := tab_hit (c := c) [] _ k (by unfold tabFb; rw [← HL.out, fb_hit HX.out HOK.out HNO.out]; rfl) (by simp)
        go_ret2
        exact ⟨by rw [hh.1, hh.2]; rfl, B5.out.b⟩
    · have P1 : Hid (fb (procOk h.i.n) c.procs = -1) := Lib.hid (fb_end HC.out.np.1 (fun j y hj => HNO.out j y (by omega)))
      have B0 := BB
      clear BB HNO
      go_wp2
      clear y0 y1 y2 y3 y4 y5 y6
      go_loopw [5] (fun i wr => ∃ k : Nat, k ≤ h.t.n ∧ i = .int .i64 k ∧ BInv w.heap.size h w wr ∧ ∀ (j : Nat) (y : ThunkD), j < k → c.thunks[j]? = some y → thunkOk h.i.n y = true) (fun i _ => h.t.n - (intOf i).toNat)
      case atStart => exact ⟨0, by omega, rfl, B0.out, fun j y hj => by omega⟩
      case round =>
        obtain ⟨k, hk, rfl, hT, hno⟩ := hrel
        have BB := Lib.hid hT
        have HNO := Lib.hid hno
        clear hno hT B0
        have y0 := BB.out.c0; have y1 := BB.out.c1; have y2 := BB.out.c2; have y3 := BB.out.c3; have y4 := BB.out.c4; have y5 := BB.out.c5; have y6 := BB.out.c6
        by_cases hlt : k < h.t.n
        · have hn : h.t.n ≤ 140737488351232 := HC.out.nt.2
          obtain ⟨ad, x, had, hx, hab, hc⟩ := Reads.elem (f := ThunkD.cells) (fun _ => rfl) (HC.out.t.below BB.out.b) HC.out.nt.1 hlt
          have c0 := hc 0 _ (by omega) rfl
          have c1 := hc 1 _ (by omega) rfl
          have c2 := hc 2 _ (by omega) rfl
          rw [show (ad.add (k * 3)).add 0 = ad.add (k * 3) from rfl] at c0
          rw [show (ad.add (k * 3)).add 1 = { block := (ad.add (k * 3)).block, off := (ad.add (k * 3)).off + 1 } from rfl] at c1
          rw [show (ad.add (k * 3)).add 2 = { block := (ad.add (k * 3)).block, off := (ad.add (k * 3)).off + 2 } from rfl] at c2
          have HAD := Lib.hid had
          rw [had] at y2
          have HX := Lib.hid hx
          have HP := Lib.hid (fun n W => rplace_any h n W HI)
          rw [had] at HP
          have KK := Lib.hid (KInv.start x BB.out)
          have d0 := KK.out.d0
          have d1 := KK.out.d1
          have d2 := KK.out.d2
          clear hc hx hab had y0 y1 y3 y4 y5 y6
          have y0 := KK.out.b.c0; have y1 := KK.out.b.c1; have y3 := KK.out.b.c3; have y4 := KK.out.b.c4; have y5 := KK.out.b.c5; have y6 := KK.out.b.c6; have z2 := KK.out.b.c2; rw [HAD.out] at z2
          cases hv : placeOk h.i.n x.value with
          | false =>
            have HOK := Lib.hid (thunkBadV hv)
            go_wp2_with (go_at_call 103; refine (HP.out _ _).mono ?_; rintro e w5 ⟨rfl, hb⟩; replace KK := Lib.hid (KK.out.below hb); clear hb; (try clear z2); clear y0 y1 y2 y3 y4 y5 y6 d0 d1 d2; have y0 := KK.out.b.c0; have y1 := KK.out.b.c1; have y2 := KK.out.b.c2; rw [HAD.out] at y2; have y3 := KK.out.b.c3; have y4 := KK.out.b.c4; have y5 := KK.out.b.c5; have y6 := KK.out.b.c6; have d0 := KK.out.d0; have d1 := KK.out.d1; have d2 := KK.out.d2)
            have hh := tab_hit (c := c) [-1] _ k (by unfold tabFb; rw [← HL.out, P1.out, fb_hit HX.out HOK.out HNO.out]; rfl) (by simp)
            go_ret2
            exact ⟨by rw [hh.1, hh.2]; rfl, KK.out.b.b⟩
          | true =>
            cases ha : placeOk h.i.n x.address with
            | false =>
              have HOK := Lib.hid (thunkBadA ha)
              go_wp2_with (go_at_call 103; refine (HP.out _ _).mono ?_; rintro e w5 ⟨rfl, hb⟩; replace KK := Lib.hid (KK.out.below hb); clear hb; (try clear z2); clear y0 y1 y2 y3 y4 y5 y6 d0 d1 d2; have y0 := KK.out.b.c0; have y1 := KK.out.b.c1; have y2 := KK.out.b.c2; rw [HAD.out] at y2; have y3 := KK.out.b.c3; have y4 := KK.out.b.c4; have y5 := KK.out.b.c5; have y6 := KK.out.b.c6; have d0 := KK.out.d0; have d1 := KK.out.d1; have d2 := KK.out.d2)
              have hh := tab_hit (c := c) [-1] _ k (by unfold tabFb; rw [← HL.out, P1.out, fb_hit HX.out HOK.out HNO.out]; rfl) (by simp)
              go_ret2
              exact ⟨by rw [hh.1, hh.2]; rfl, KK.out.b.b⟩
            | true =>
              cases hd : placeOk h.i.n x.desig with
              | false =>
                have HOK := Lib.hid (thunkBadD hd)
                go_wp2_with (go_at_call 103; refine (HP.out _ _).mono ?_; rintro e w5 ⟨rfl, hb⟩; replace KK := Lib.hid (KK.out.below hb); clear hb; (try clear z2); clear y0 y1 y2 y3 y4 y5 y6 d0 d1 d2; have y0 := KK.out.b.c0; have y1 := KK.out.b.c1; have y2 := KK.out.b.c2; rw [HAD.out] at y2; have y3 := KK.out.b.c3; have y4 := KK.out.b.c4; have y5 := KK.out.b.c5; have y6 := KK.out.b.c6; have d0 := KK.out.d0; have d1 := KK.out.d1; have d2 := KK.out.d2)
                have hh := tab_hit (c := c) [-1] _ k (by unfold tabFb; rw [← HL.out, P1.out, fb_hit HX.out HOK.out HNO.out]; rfl) (by simp)
                go_ret2
                exact ⟨by rw [hh.1, hh.2]; rfl, KK.out.b.b⟩
              | true =>
                have HOK : Hid (thunkOk h.i.n x = true) := Lib.hid (by unfold thunkOk; rw [hv, ha, hd]; rfl)
                go_wp2_with (go_at_call 103; refine (HP.out _ _).mono ?_; rintro e w5 ⟨rfl, hb⟩; replace KK := Lib.hid (KK.out.below hb); clear hb; (try clear z2); clear y0 y1 y2 y3 y4 y5 y6 d0 d1 d2; have y0 := KK.out.b.c0; have y1 := KK.out.b.c1; have y2 := KK.out.b.c2; rw [HAD.out] at y2; have y3 := KK.out.b.c3; have y4 := KK.out.b.c4; have y5 := KK.out.b.c5; have y6 := KK.out.b.c6; have d0 := KK.out.d0; have d1 := KK.out.d1; have d2 := KK.out.d2)
                go_roundw
                case rel => exact ⟨k + 1, by omega, by go_num, KK.out.b, upto_succ HX.out HOK.out HNO.out⟩
                case measure => simp [intOf]; omega
        · have P2 : Hid (fb (thunkOk h.i.n) c.thunks = -1) := Lib.hid (fb_end HC.out.nt.1 (fun j y hj => HNO.out j y (by omega)))
          have B0 := BB
          clear BB HNO
          go_wp2
          clear y0 y1 y2 y3 y4 y5 y6
          go_loopw [7] (fun i wr => ∃ k : Nat, k ≤ h.s.n ∧ i = .int .i64 k ∧ BInv w.heap.size h w wr ∧ ∀ (j : Nat) (y : List Int), j < k → c.switches[j]? = some y → switchOk h.i.n y = true) (fun i _ => h.s.n - (intOf i).toNat)
          case atStart => exact ⟨0, by omega, rfl, B0.out, fun j y hj => by omega⟩
          case round =>
            obtain ⟨k, hk, rfl, hT, hno⟩ := hrel
            have BB := Lib.hid hT
            have HNO := Lib.hid hno
            clear hno hT B0
            have y0 := BB.out.c0; have y1 := BB.out.c1; have y2 := BB.out.c2; have y3 := BB.out.c3; have y4 := BB.out.c4; have y5 := BB.out.c5; have y6 := BB.out.c6
            by_cases hlt : k < h.s.n
            · have hn : h.s.n ≤ 140737488351232 := HC.out.ns.2
              obtain ⟨hs, hr, hsl, hsx⟩ := HC.out.s
              obtain ⟨ad, x, had, hx, hab, c0⟩ := Reads.elem1 (f := SH.v) (hr.below BB.out.b) (HC.out.ns.1.trans hsl.symm) hlt
              obtain ⟨l, hl⟩ : ∃ l, c.switches[k]? = some l := ⟨_, List.getElem?_eq_getElem (by have := HC.out.ns.1; omega)⟩
              obtain ⟨hRl, hSl⟩ := hsx k x l hx hl
              have HX := Lib.hid hl
              have RD := Lib.hid ((hRl.below BB.out.drew.b).more BB.out.drew.b.size)
              have hln : x.n = l.length := by have := hRl.1; simp [intCells] at this; omega
              have HP := Lib.hid (fun W hw => choices_any h x.a x.n x.c l W HI hw hln hSl)
              change wr.cell? (ad.add k) = some (.slice x.a x.n x.c) at c0
              rw [had] at HP y3
              have hi1 : (k : Int) < (h.s.n : Int) := by omega
              have hi0 : (0 : Int) ≤ (k : Int) := by omega
              clear hx hab had hr hsl hsx hl hRl hSl hln
              cases hok : switchOk h.i.n l with
              | true =>
                have HOK := Lib.hid hok
                go_wp2
                refine wp_region_still_tail 6 (by kernel_rfl) (by kernel_rfl) ?_
                simp only [List.take_succ_cons, List.take_zero, List.drop_succ_cons, List.drop_zero]
                change wpStill _ _ wr.drew _ _ _
                repeat still_step
                refine wpStill_nil ?_
                change wpList _ _ _ _ _ wr.drew
                go_wp2_with (go_at_call 104; refine (HP.out _ RD.out).mono ?_; rintro e w5 ⟨rfl, hb5⟩; have B5 := Lib.hid (BB.out.drew.below hb5); clear hb5)
                go_roundw
                case rel => exact ⟨k + 1, by omega, by go_num, B5.out, upto_succ HX.out HOK.out HNO.out⟩
                case measure => simp [intOf]; omega
              | false =>
                have HOK := Lib.hid hok
                go_wp2
                refine wp_region_still_tail 6 (by kernel_rfl) (by kernel_rfl) ?_
                simp only [List.take_succ_cons, List.take_zero, List.drop_succ_cons, List.drop_zero]
                change wpStill _ _ wr.drew _ _ _
                repeat still_step
                refine wpStill_nil ?_
                change wpList _ _ _ _ _ wr.drew
                go_wp2_with (go_at_call 104; refine (HP.out _ RD.out).mono ?_; rintro e w5 ⟨rfl, hb5⟩; have B5 := Lib.hid (BB.out.drew.below hb5); clear hb5)
                have hh := tab_hit (c := c) [-1, -1] _ k (by unfold tabFb; rw [← HL.out, P1.out, P2.out, fb_hit HX.out HOK.out HNO.out]; rfl) (by simp)
                go_ret2
                exact ⟨by rw [hh.1, hh.2]; rfl, B5.out.b⟩
            · have P3 : Hid (fb (switchOk h.i.n) c.switches = -1) := Lib.hid (fb_end HC.out.ns.1 (fun j y hj => HNO.out j y (by omega)))
              have B0 := BB
              clear BB HNO
              go_wp2
              clear y0 y1 y2 y3 y4 y5 y6
              go_loopw [8] (fun i wr => ∃ k : Nat, k ≤ h.g.n ∧ i = .int .i64 k ∧ BInv w.heap.size h w wr ∧ ∀ (j : Nat) (y : ByteArray), j < k → c.strings[j]? = some y → strOk y = true) (fun i _ => h.g.n - (intOf i).toNat)
              case atStart => exact ⟨0, by omega, rfl, B0.out, fun j y hj => by omega⟩
              case round =>
                obtain ⟨k, hk, rfl, hT, hno⟩ := hrel
                have BB := Lib.hid hT
                have HNO := Lib.hid hno
                clear hno hT B0
                have y0 := BB.out.c0; have y1 := BB.out.c1; have y2 := BB.out.c2; have y3 := BB.out.c3; have y4 := BB.out.c4; have y5 := BB.out.c5; have y6 := BB.out.c6
                by_cases hlt : k < h.g.n
                · have hn : h.g.n ≤ 140737488351232 := HC.out.ng.2
                  obtain ⟨ad, x, had, hx, hab, c0⟩ := Reads.elem1 (f := Value.string) (HC.out.g.below BB.out.b) HC.out.ng.1 hlt
                  have HX := Lib.hid hx
                  have hxs : x.size ≤ 140737488351232 := HC.out.zs x (List.mem_of_getElem? hx)
                  have HP := Lib.hid (fun W => text_any x W hxs)
                  rw [had] at y4
                  clear hx hab had
                  cases hok : strOk x with
                  | true =>
                    have HOK := Lib.hid hok
                    go_wp2_with (go_at_call 105; refine (HP.out _).mono ?_; rintro e w5 ⟨rfl, rfl⟩)
                    go_roundw
                    case rel => exact ⟨k + 1, by omega, by go_num, BB.out, upto_succ HX.out HOK.out HNO.out⟩
                    case measure => simp [intOf]; omega
                  | false =>
                    have HOK := Lib.hid hok
                    go_wp2_with (go_at_call 105; refine (HP.out _).mono ?_; rintro e w5 ⟨rfl, rfl⟩)
                    have hh := tab_hit (c := c) [-1, -1, -1] _ k (by unfold tabFb; rw [← HL.out, P1.out, P2.out, P3.out, fb_hit HX.out HOK.out HNO.out]; rfl) (by simp)
                    go_ret2
                    exact ⟨by rw [hh.1, hh.2]; rfl, BB.out.b⟩
                · have P4 : Hid (fb (strOk) c.strings = -1) := Lib.hid (fb_end HC.out.ng.1 (fun j y hj => HNO.out j y (by omega)))
                  have B0 := BB
                  clear BB HNO
                  go_wp2
                  clear y0 y1 y2 y3 y4 y5 y6
                  go_loopw [9] (fun i wr => ∃ k : Nat, k ≤ h.r.n ∧ i = .int .i64 k ∧ BInv w.heap.size h w wr ∧ ∀ (j : Nat) (y : RealD), j < k → c.reals[j]? = some y → realOk y = true) (fun i _ => h.r.n - (intOf i).toNat)
                  case atStart => exact ⟨0, by omega, rfl, B0.out, fun j y hj => by omega⟩
                  case round =>
                    obtain ⟨k, hk, rfl, hT, hno⟩ := hrel
                    have BB := Lib.hid hT
                    have HNO := Lib.hid hno
                    clear hno hT B0
                    have y0 := BB.out.c0; have y1 := BB.out.c1; have y2 := BB.out.c2; have y3 := BB.out.c3; have y4 := BB.out.c4; have y5 := BB.out.c5; have y6 := BB.out.c6
                    by_cases hlt : k < h.r.n
                    · have hn : h.r.n ≤ 140737488351232 := HC.out.nr.2
                      obtain ⟨ad, x, had, hx, hab, hc⟩ := Reads.elem (f := RealD.cells) (fun _ => rfl) (HC.out.r.below BB.out.b) HC.out.nr.1 hlt
                      have HC0 : Hid (∀ W, Below w.heap.size w W → W.cell? (ad.add (k * 2)) = some (.int .i64 x.man)) := Lib.hid (fun W hb => by
                        obtain ⟨ad2, x2, had2, hx2, hab2, hc2⟩ := Reads.elem (f := RealD.cells) (fun _ => rfl) (HC.out.r.below hb) HC.out.nr.1 hlt
                        rw [had] at had2; cases had2; rw [hx] at hx2; cases hx2
                        exact hc2 0 _ (by omega) rfl)
                      have HC1 : Hid (∀ W, Below w.heap.size w W → W.cell? { block := (ad.add (k * 2)).block, off := (ad.add (k * 2)).off + 1 } = some (.int .i64 x.exp)) := Lib.hid (fun W hb => by
                        obtain ⟨ad2, x2, had2, hx2, hab2, hc2⟩ := Reads.elem (f := RealD.cells) (fun _ => rfl) (HC.out.r.below hb) HC.out.nr.1 hlt
                        rw [had] at had2; cases had2; rw [hx] at hx2; cases hx2
                        exact hc2 1 _ (by omega) rfl)
                      have c0 := HC0.out _ BB.out.b
                      have c1 := HC1.out _ BB.out.b
                      have HAD := Lib.hid had
                      rw [had] at y5
                      have HX := Lib.hid hx
                      have HXM := Lib.hid (HC.out.wr x (List.mem_of_getElem? hx)).1
                      clear hc hx hab had
                      cases hr : realB x.man x.exp with
                      | false =>
                        have HOK := Lib.hid (realBadA (x := x) (by rw [hr]; simp))
                        go_wp2_with (go_at_call 106; refine (rvalid_any _ _ HXM.out _).mono ?_; rintro e w5 ⟨rfl, hb5⟩; have B5 := Lib.hid (BB.out.below hb5); clear hb5; clear y0 y1 y2 y3 y4 y5 y6 c0 c1; have y5 := B5.out.c5; rw [HAD.out] at y5; have c0 := HC0.out _ B5.out.b; have c1 := HC1.out _ B5.out.b)
                        have hh := tab_hit (c := c) [-1, -1, -1, -1] _ k (by unfold tabFb; rw [← HL.out, P1.out, P2.out, P3.out, P4.out, fb_hit HX.out HOK.out HNO.out]; rfl) (by simp)
                        go_ret2
                        exact ⟨by rw [hh.1, hh.2]; rfl, B5.out.b⟩
                      | true =>
                        by_cases hm : x.man < 0
                        · have HOK := Lib.hid (realBadB hm)
                          go_wp2_with (go_at_call 106; refine (rvalid_any _ _ HXM.out _).mono ?_; rintro e w5 ⟨rfl, hb5⟩; have B5 := Lib.hid (BB.out.below hb5); clear hb5; clear y0 y1 y2 y3 y4 y5 y6 c0 c1; have y5 := B5.out.c5; rw [HAD.out] at y5; have c0 := HC0.out _ B5.out.b; have c1 := HC1.out _ B5.out.b)
                          have hh := tab_hit (c := c) [-1, -1, -1, -1] _ k (by unfold tabFb; rw [← HL.out, P1.out, P2.out, P3.out, P4.out, fb_hit HX.out HOK.out HNO.out]; rfl) (by simp)
                          go_ret2
                          exact ⟨by rw [hh.1, hh.2]; rfl, B5.out.b⟩
                        · have HOK := Lib.hid (realGood hr (by omega))
                          go_wp2_with (go_at_call 106; refine (rvalid_any _ _ HXM.out _).mono ?_; rintro e w5 ⟨rfl, hb5⟩; have B5 := Lib.hid (BB.out.below hb5); clear hb5; clear y0 y1 y2 y3 y4 y5 y6 c0 c1; have y5 := B5.out.c5; rw [HAD.out] at y5; have c0 := HC0.out _ B5.out.b; have c1 := HC1.out _ B5.out.b)
                          go_roundw
                          case rel => exact ⟨k + 1, by omega, by go_num, B5.out, upto_succ HX.out HOK.out HNO.out⟩
                          case measure => simp [intOf]; omega
                    · have P5 : Hid (fb (realOk) c.reals = -1) := Lib.hid (fb_end HC.out.nr.1 (fun j y hj => HNO.out j y (by omega)))
                      have B0 := BB
                      clear BB HNO
                      go_wp2
                      clear y0 y1 y2 y3 y4 y5 y6
                      go_loopw [10] (fun i wr => ∃ k : Nat, k ≤ h.o.n ∧ i = .int .i64 k ∧ BInv w.heap.size h w wr ∧ ∀ (j : Nat) (y : Int), j < k → c.owns[j]? = some y → ownOk y = true) (fun i _ => h.o.n - (intOf i).toNat)
                      case atStart => exact ⟨0, by omega, rfl, B0.out, fun j y hj => by omega⟩
                      case round =>
                        obtain ⟨k, hk, rfl, hT, hno⟩ := hrel
                        have BB := Lib.hid hT
                        have HNO := Lib.hid hno
                        clear hno hT B0
                        have y0 := BB.out.c0; have y1 := BB.out.c1; have y2 := BB.out.c2; have y3 := BB.out.c3; have y4 := BB.out.c4; have y5 := BB.out.c5; have y6 := BB.out.c6
                        by_cases hlt : k < h.o.n
                        · have hn : h.o.n ≤ 140737488351232 := HC.out.no.2
                          obtain ⟨ad, x, had, hx, hab, c0⟩ := Reads.elem1 (f := Value.int .i64) (HC.out.o.below BB.out.b) HC.out.no.1 hlt
                          have HX := Lib.hid hx
                          rw [had] at y6
                          clear hx hab had
                          cases hok : ownOk x with
                          | true =>
                            have HOK := Lib.hid hok
                            have HW := Lib.hid (ownOk_wi x)
                            go_wp2_with (go_at_call 107; refine (in_any _ _ _ _).mono ?_; rintro e w5 ⟨rfl, rfl⟩; rw [HW.out])
                            go_roundw
                            case rel => exact ⟨k + 1, by omega, by go_num, BB.out, upto_succ HX.out HOK.out HNO.out⟩
                            case measure => simp [intOf]; omega
                          | false =>
                            have HOK := Lib.hid hok
                            have HW := Lib.hid (ownOk_wi x)
                            go_wp2_with (go_at_call 107; refine (in_any _ _ _ _).mono ?_; rintro e w5 ⟨rfl, rfl⟩; rw [HW.out])
                            have hh := tab_hit (c := c) [-1, -1, -1, -1, -1] _ k (by unfold tabFb; rw [← HL.out, P1.out, P2.out, P3.out, P4.out, P5.out, fb_hit HX.out HOK.out HNO.out]; rfl) (by simp)
                            go_ret2
                            exact ⟨by rw [hh.1, hh.2]; rfl, BB.out.b⟩
                        · have P6 : Hid (fb ownOk c.owns = -1) := Lib.hid (fb_end HC.out.no.1 (fun j y hj => HNO.out j y (by omega)))
                          go_wp2
                          have hh := tab_none (c := c) (by unfold tabFb; rw [← HL.out, P1.out, P2.out, P3.out, P4.out, P5.out, P6.out]; simp)
                          go_ret2
                          exact ⟨by rw [hh.1, hh.2]; rfl, BB.out.b⟩
theorem ins_hit {c : CodeD} {k : Nat} {x : InstrD} (ht : tabErr c = 0) (hx : c.instrs[k]? = some x) (h0 : insErr c x ≠ 0) (hno : ∀ (j : Nat) (y : InstrD), j < k → c.instrs[j]? = some y → insErr c y = 0) : chkErr c false = insErr c x ∧ chkAt c false = k := chk_hit ht hx rfl h0 hno
set_option maxHeartbeats 4000000 in
theorem rCheck_any (h : CodeH) (c : CodeD) (w : World) (H : CodeAt w w.heap.size h c) : Calls Tryz.prog 15 #[.agg #[.slice h.i.a h.i.n h.i.c, .slice h.p.a h.p.n h.p.c, .slice h.t.a h.t.n h.t.c, .slice h.s.a h.s.n h.s.c, .slice h.g.a h.g.n h.g.c, .slice h.r.a h.r.n h.r.c, .slice h.o.a h.o.n h.o.c]] w
    fun e w' => e = .returned (.tuple #[.int .i64 (chkErr c (largeB h)), .int .i64 (chkAt c (largeB h))]) ∧ Below w.heap.size w w' := by
  have HC := Lib.hid H
  clear H
  have B0 := Lib.hid (BInv.start h w 30)
  have hmx := run_max6 Tryz.prog
  have hg := max6_gt h.p.n h.t.n h.s.n h.g.n h.r.n h.o.n 2000
  cases hl : largeB h with
  | true =>
    have hd : (h.i.n : Int) < 1 ∨ (1 ≤ (h.i.n : Int) ∧ 20000 < (h.i.n : Int)) ∨ (1 ≤ (h.i.n : Int) ∧ (h.i.n : Int) ≤ 20000 ∧ 2000 < max6 h.p.n h.t.n h.s.n h.g.n h.r.n h.o.n) := by
      unfold largeB at hl
      rw [decide_eq_true_eq] at hl
      rw [hg]
      omega
    clear hl hg
    rcases hd with h1 | ⟨h1, h2⟩ | ⟨h1, h2, h3⟩
    all_goals
      go_enter Tryz.func15, Tryz.ntmps15
      go_wp2
      go_ret2
      exact ⟨rfl, B0.out.b⟩
  | false =>
    have hd : 1 ≤ (h.i.n : Int) ∧ (h.i.n : Int) ≤ 20000 ∧ max6 h.p.n h.t.n h.s.n h.g.n h.r.n h.o.n ≤ 2000 := by
      have hs := large_sizes hl
      have : ¬ 2000 < max6 h.p.n h.t.n h.s.n h.g.n h.r.n h.o.n := by rw [hg]; omega
      omega
    obtain ⟨h1, h2, h3⟩ := hd
    clear hg hl
    cases ht : decide (tabErr c = 0) with
    | false =>
      have htb : (tabErr c != 0) = true := by simpa using ht
      have htn : tabErr c ≠ 0 := by simpa using ht
      have HTN := Lib.hid htn
      clear htn ht
      go_enter Tryz.func15, Tryz.ntmps15
      go_wp2_with (first
        | (go_at_call 46; refine (rtables_any h c _ (HC.out.at B0.out.b)).mono ?_; rintro e w2 ⟨rfl, hb2⟩; have B2 := Lib.hid (B0.out.below hb2); clear hb2))
      go_ret2
      exact ⟨by unfold chkErr chkAt; rw [if_pos HTN.out, if_pos HTN.out]; rfl, B2.out.b⟩
    | true =>
      have htb : (tabErr c != 0) = false := by simpa using ht
      have htn : tabErr c = 0 := by simpa using ht
      have HTN := Lib.hid htn
      clear htn ht
      go_enter Tryz.func15, Tryz.ntmps15
      go_wp2_with (first
        | (go_at_call 46; refine (rtables_any h c _ (HC.out.at B0.out.b)).mono ?_; rintro e w2 ⟨rfl, hb2⟩; have B2 := Lib.hid (B0.out.below hb2); clear hb2))
      go_loopw [7] (fun i wr => ∃ k : Nat, k ≤ h.i.n ∧ i = .int .i64 k ∧ BInv w.heap.size h w wr ∧ ∀ (j : Nat) (y : InstrD), j < k → c.instrs[j]? = some y → insErr c y = 0) (fun i _ => h.i.n - (intOf i).toNat)
      case atStart => exact ⟨0, by omega, rfl, B2.out, fun j y hj => by omega⟩
      case round =>
        obtain ⟨k, hk, rfl, hT, hno⟩ := hrel
        have BB := Lib.hid hT
        have HNO := Lib.hid hno
        clear hno hT B0 B2 htb
        have y0 := BB.out.c0; have y1 := BB.out.c1; have y2 := BB.out.c2; have y3 := BB.out.c3; have y4 := BB.out.c4; have y5 := BB.out.c5; have y6 := BB.out.c6
        by_cases hlt : k < h.i.n
        · obtain ⟨ad, x, had, hx, hab, hc⟩ := Reads.elem (f := InstrD.cells) (fun _ => rfl) (HC.out.i.below BB.out.b) HC.out.ni.1 hlt
          have c0 := hc 0 _ (by omega) rfl
          have c1 := hc 1 _ (by omega) rfl
          have c2 := hc 2 _ (by omega) rfl
          have c3 := hc 3 _ (by omega) rfl
          rw [show (ad.add (k * 4)).add 0 = ad.add (k * 4) from rfl] at c0
          rw [show (ad.add (k * 4)).add 1 = { block := (ad.add (k * 4)).block, off := (ad.add (k * 4)).off + 1 } from rfl] at c1
          rw [show (ad.add (k * 4)).add 2 = { block := (ad.add (k * 4)).block, off := (ad.add (k * 4)).off + 2 } from rfl] at c2
          rw [show (ad.add (k * 4)).add 3 = { block := (ad.add (k * 4)).block, off := (ad.add (k * 4)).off + 3 } from rfl] at c3
          have HX := Lib.hid hx
          have HP := Lib.hid (fun W hw => instr_any h c x W hw)
          rw [had] at HP y0
          have hi1 : (k : Int) < (h.i.n : Int) := by omega
          have hi0 : (0 : Int) ≤ (k : Int) := by omega
          clear hc hx hab had
          by_cases he : insErr c x = 0
          · have HE := Lib.hid he
            clear he
            go_wp2
            refine wp_region_still_tail 6 (by kernel_rfl) (by kernel_rfl) ?_
            simp only [List.take_succ_cons, List.take_zero, List.drop_succ_cons, List.drop_zero]
            change wpStill _ _ wr.drew _ _ _
            repeat still_step
            refine wpStill_nil ?_
            change wpList _ _ _ _ _ wr.drew
            go_wp2_with (go_at_call 47; refine (HP.out _ (HC.out.at BB.out.drew.b)).mono ?_; rintro e w5 ⟨rfl, hb5⟩; have B5 := Lib.hid (BB.out.drew.below hb5); clear hb5; rw [HE.out])
            go_roundw
            case rel => exact ⟨k + 1, by omega, by go_num, B5.out, fun j y hj hy => by
              rcases Nat.lt_succ_iff_lt_or_eq.1 hj with h | rfl
              · exact HNO.out j y h hy
              · rw [HX.out] at hy; cases hy; exact HE.out⟩
            case measure => simp [intOf]; omega
          · have hh := Lib.hid (ins_hit HTN.out HX.out he HNO.out)
            have heb : (insErr c x != 0) = true := by simpa using he
            clear he
            go_wp2
            refine wp_region_still_tail 6 (by kernel_rfl) (by kernel_rfl) ?_
            simp only [List.take_succ_cons, List.take_zero, List.drop_succ_cons, List.drop_zero]
            change wpStill _ _ wr.drew _ _ _
            repeat still_step
            refine wpStill_nil ?_
            change wpList _ _ _ _ _ wr.drew
            go_wp2_with (go_at_call 47; refine (HP.out _ (HC.out.at BB.out.drew.b)).mono ?_; rintro e w5 ⟨rfl, hb5⟩; have B5 := Lib.hid (BB.out.drew.below hb5); clear hb5)
            go_ret2
            exact ⟨by rw [hh.out.1, hh.out.2]; rfl, B5.out.b⟩
        · have HH := Lib.hid (chk_none HTN.out (fun j y hy => HNO.out j y (by have := (List.getElem?_eq_some_iff.1 hy).1; have := HC.out.ni.1; omega) hy))
          go_wp2
          go_ret2
          exact ⟨by rw [HH.out.1, HH.out.2]; rfl, BB.out.b⟩
theorem rValid_any (h : CodeH) (c : CodeD) (w : World) (H : CodeAt w w.heap.size h c) : Calls Tryz.prog 19 #[.agg #[.slice h.i.a h.i.n h.i.c, .slice h.p.a h.p.n h.p.c, .slice h.t.a h.t.n h.t.c, .slice h.s.a h.s.n h.s.c, .slice h.g.a h.g.n h.g.c, .slice h.r.a h.r.n h.r.c, .slice h.o.a h.o.n h.o.c]] w
    fun e w' => e = .returned (.bool (fineB c (largeB h))) ∧ Below w.heap.size w w' := by
  have HC := Lib.hid H
  clear H
  have B0 := Lib.hid (BInv.start h w 30)
  go_enter Tryz.func19, Tryz.ntmps19
  go_wp2_with (go_at_call 15; refine (rCheck_any h c _ (HC.out.at B0.out.b)).mono ?_; rintro e w1 ⟨rfl, hb1⟩; have B1 := Lib.hid (B0.out.below hb1); clear hb1)
  go_ret
  exact ⟨rfl, B1.out.b⟩
end Go.Proofs.YtmfnholhhakgaaaGreatDoor
