/- The reference of chapter 14: Entries: the contract: as the program's. -/
import Derived.Test.YtmfnholhhakgaaaGreatDoorRfn
import Derived.StillTailTactics
namespace Go.Proofs.YtmfnholhhakgaaaGreatDoor
open Go Go.Proofs Go.RowKit Go.Sort
set_option maxRecDepth 100000
/-- The flags say of each place whether it stands in the list. -/
structure FI (n : Nat) (bs : List Bool) (L : List Int) : Prop where
  l : bs.length = n
  f : ∀ i : Nat, bs[i]? = some true ↔ i < n ∧ (i : Int) ∈ L
theorem FI.push {n : Nat} {bs : List Bool} {L : List Int} (H : FI n bs L) {j : Nat} (hj : j < n) : FI n (bs.set j true) (L ++ [(j : Int)]) where
  l := by rw [List.length_set]; exact H.l
  f := fun i => by
    rw [set_true (by rw [H.l]; exact hj), H.f]
    simp only [List.mem_append, List.mem_singleton]
    constructor
    · rintro (rfl | ⟨h1, h2⟩)
      · exact ⟨hj, .inr rfl⟩
      · exact ⟨h1, .inl h2⟩
    · rintro ⟨h1, h2 | h2⟩
      · exact .inr ⟨h1, h2⟩
      · exact .inl (by omega)
theorem FI.start (n : Nat) : FI n (List.replicate n false) [] where
  l := by simp
  f := fun i => by rw [rep_true]; simp
theorem FI.marks {n : Nat} {bs : List Bool} {L : List Int} (H : FI n bs L) (hL : ∀ z ∈ L, Pl n z) : mkL bs bs.length = Lib.compact (sortL L) := by
  refine asc_ext (mkL_asc _ _) (cs_lt _) fun z => ?_
  rw [mem_mkL, mem_cs]
  constructor
  · rintro ⟨i, rfl, h⟩
    exact ((H.f i).1 h).2
  · intro hz
    obtain ⟨i, rfl, hi⟩ := hL z hz
    exact ⟨i, rfl, (H.f i).2 ⟨hi, hz⟩⟩
/-- A code in block N, flags in block G. -/
structure EV (N G : Nat) (h : CodeH) (w wr : World) (n : Nat) (bs : List Bool) : Prop where
  x : BInv N h w wr
  g : N < G
  z : G < wr.heap.size
  o : wr.ownsRow N 4 1 (.slice (some ⟨G, 0, none⟩) n n) n (bs.map Value.bool)
theorem EV.to {N G n : Nat} {h : CodeH} {w wr wx : World} {bs : List Bool} (H : EV N G h w wr n bs) (hb : Below (G + 1) wr wx) : EV N G h w wx n bs :=
  { x := H.x.to (hb.mono (by have := H.g; omega)), g := H.g, z := Nat.lt_of_lt_of_le H.z hb.size, o := own_at H.o hb (by omega) }
theorem EV.drew {N G n : Nat} {h : CodeH} {w wr : World} {bs : List Bool} (H : EV N G h w wr n bs) : EV N G h w wr.drew n bs := H.to ((Below.refl _ _).drew)
theorem EV.alloc {N G n : Nat} {h : CodeH} {w wr : World} {bs : List Bool} (H : EV N G h w wr n bs) (o : Obj) : EV N G h w (wr.alloc o) n bs := H.to ((Below.refl _ _).alloc H.z o)
theorem EV.set {N G n : Nat} {h : CodeH} {w wr : World} {bs : List Bool} (H : EV N G h w wr n bs) (k : Nat) : EV N G h w (wr.setCell ⟨G, k, none⟩ (.bool true)) n (bs.set k true) := by
  obtain ⟨h1, _⟩ := H.o.stored k (.bool true)
  exact { x := H.x.to ((Below.refl _ _).setCell H.g _), g := H.g, z := by simpa using H.z, o := by rw [List.map_set]; exact h1 }
theorem EV.at {N G n k : Nat} {h : CodeH} {w wr : World} {bs : List Bool} (H : EV N G h w wr n bs) (hk : k < n) : ∃ b, wr.cell? ⟨G, k, none⟩ = some (.bool b) := by
  have hl : (bs.map Value.bool).length = n := by have := H.o.1; simpa using this
  rw [H.o.cellAt k (by omega), List.getElem?_map, List.getElem?_eq_getElem (by simpa using (hl ▸ hk : k < (bs.map Value.bool).length))]
  exact ⟨_, rfl⟩
theorem EV.reads {N G n : Nat} {h : CodeH} {w wr : World} {bs : List Bool} (H : EV N G h w wr n bs) : Reads wr wr.heap.size 1 (some ⟨G, 0, none⟩) n (bs.map Value.bool) := Reads.of_own H.o
theorem proc_pl {c : CodeD} (W : Well c) {p : ProcD} (hp : p ∈ c.procs) : Pl c.instrs.length p.entry := by
  have := W.p p hp
  unfold procOk at this
  simp only [Bool.and_eq_true] at this
  exact pl_of this.1.1.1
theorem thunk_pl {c : CodeD} (W : Well c) {t : ThunkD} (ht : t ∈ c.thunks) : (0 ≤ t.value → Pl c.instrs.length t.value) ∧ (0 ≤ t.address → Pl c.instrs.length t.address) ∧ (0 ≤ t.desig → Pl c.instrs.length t.desig) := by
  have hw := W.t t ht
  unfold thunkOk placeOk at hw
  simp only [Bool.and_eq_true, Bool.or_eq_true, decide_eq_true_eq] at hw
  exact ⟨fun h => pl_of (hw.1.1.resolve_left (by omega)), fun h => pl_of (hw.1.2.resolve_left (by omega)), fun h => pl_of (hw.2.resolve_left (by omega))⟩
theorem sw_pl {c : CodeD} (W : Well c) {s : List Int} (hs : s ∈ c.switches) {z : Int} (hz : z ∈ s) : Pl c.instrs.length z := by
  have hw := W.s s hs
  unfold switchOk at hw
  simp only [Bool.and_eq_true, Bool.not_eq_true'] at hw
  have := (List.any_eq_false.1 hw.2) z hz
  exact pl_of (by simpa using this)
theorem lab_pl {c : CodeD} (W : Well c) {x : InstrD} (hx : x ∈ c.instrs) (ho : x.op = 20) : Pl c.instrs.length x.a := by
  have hi := W.i x hx
  unfold insErr at hi
  rw [ho] at hi
  have : opnd c (opK0 20).toNat x.a = true := by
    cases hh : opnd c (opK0 20).toNat x.a with
    | true => rfl
    | false => rw [hh] at hi; simp [show opIs 20 = true from rfl] at hi
  exact pl_of (show wiB x.a 0 ((c.instrs.length : Int) - 1) = true from this)
set_option maxHeartbeats 8000000 in
theorem rEntries_any (h : CodeH) (c : CodeD) (w : World) (H : CodeAt w w.heap.size h c) (hf : fineB c (largeB h) = true) :
    Calls Tryz.prog 36 #[.agg #[.slice h.i.a h.i.n h.i.c, .slice h.p.a h.p.n h.p.c, .slice h.t.a h.t.n h.t.c, .slice h.s.a h.s.n h.s.c, .slice h.g.a h.g.n h.g.c, .slice h.r.a h.r.n h.r.c, .slice h.o.a h.o.n h.o.c]] w
      (RetInts w (entL c)) := by
  obtain ⟨hl, W⟩ := fine_well hf
  obtain ⟨hn0, hn1, hp1, ht1, hs1, _⟩ := large_sizes hl
  have HN := Lib.hid H.ni.1
  have hn00 : 0 < c.instrs.length := by have := HN.out; omega
  have HC := Lib.hid H
  have HPP := Lib.hid (fun p (hp : p ∈ c.procs) => proc_pl W hp)
  have HPT := Lib.hid (fun t (ht : t ∈ c.thunks) => thunk_pl W ht)
  have HPS := Lib.hid (fun s (hs : s ∈ c.switches) z (hz : z ∈ s) => sw_pl W hs hz)
  have HPI := Lib.hid (fun x (hx : x ∈ c.instrs) (ho : x.op = 20) => lab_pl W hx ho)
  have HPE := Lib.hid (ent_raw W hn00)
  rw [← HN.out] at HPP HPT HPS HPI HPE
  have B0 := Lib.hid (BInv.start h w 30)
  obtain ⟨i0, hi0, hz0, hz1, hz2⟩ := elemBools.i
  clear H hf W hl
  go_enter Tryz.func36, Tryz.ntmps36
  go_wp2_with (first
    | (at_make; refine wpList_make_full _ rfl _ _ 66 rfl w.heap.size 4 i0 (.bool false) 1 Tryz.underlying66 hi0 hz0 hz1 .i64 .i64 _ _ h.i.n rfl rfl rfl rfl (by rw [hz2]; omega) (by unfold maxLen; omega) (by simp) ?_; intro w2 ho2 hg2; rw [made_bools] at ho2; have hb2 := (Below.refl _ _).grown hg2 (Nat.le_refl _) (fun k hk => by cases hk); have B2 := Lib.hid (B0.out.below hb2); simp only [World.size_alloc] at ho2; have hz9 : w.heap.size + 1 < w2.heap.size := (by
        rcases ho2.2 with ⟨h', _⟩ | ⟨g, cap, cur, h', _, hg, _⟩
        · simp at h'
        · have := (Array.getElem?_eq_some_iff.1 hg).1
          simp at h'
          omega); have E2 : Hid (EV w.heap.size (w.heap.size + 1) h w w2 h.i.n (List.replicate h.i.n false)) := Lib.hid ⟨B2.out, by omega, hz9, ho2⟩; clear ho2 hg2 hb2 hz9; have f0 := E2.out.o.frozenAt 0; obtain ⟨b0, q0⟩ := E2.out.at hn0))
  have E3 := Lib.hid (E2.out.set 0)
  have I3 : Hid (FI h.i.n ((List.replicate h.i.n false).set 0 true) (lp c 0)) := Lib.hid (by
    have := (FI.start h.i.n).push hn0
    exact this)
  clear f0 q0 E2 B2 B0
  go_loopw [4] (fun i wr => ∃ k : Nat, k ≤ h.p.n ∧ i = .int .i64 k ∧ ∃ bs, EV w.heap.size (w.heap.size + 1) h w wr h.i.n bs ∧ FI h.i.n bs (lp c k)) (fun i _ => h.p.n - (intOf i).toNat)
  case atStart => exact ⟨0, by omega, rfl, _, E3.out, I3.out⟩
  case round =>
    obtain ⟨k, hk, rfl, bs, hE, hI⟩ := hrel
    have EE := Lib.hid hE
    have FF := Lib.hid hI
    clear hE hI E3 I3
    have y1 := EE.out.x.c1
    by_cases hlt : k < h.p.n
    · obtain ⟨ad, x, had, hx, hab, hc⟩ := Reads.elem (f := ProcD.cells) (fun _ => rfl) (HC.out.p.below EE.out.x.b) HC.out.np.1 hlt
      obtain ⟨e, he, hen⟩ := HPP.out x (List.mem_of_getElem? hx)
      have c0 := hc 0 _ (by omega) rfl
      rw [show (ad.add (k * 5)).add 0 = ad.add (k * 5) from rfl, he] at c0
      rw [had] at y1
      have LS := Lib.hid (lp_succ hx)
      rw [he] at LS
      have f0 := EE.out.o.frozenAt e
      obtain ⟨b0, q0⟩ := EE.out.at hen
      have hi1 : (e : Int) < (h.i.n : Int) := by omega
      have hi2 : (k : Int) < (h.p.n : Int) := by omega
      clear hx hc hab had he
      go_wp2
      go_roundw
      case rel => exact ⟨k + 1, by omega, by go_num, bs.set e true, EE.out.set e, by rw [LS.out]; exact FF.out.push hen⟩
      case measure => simp [intOf]; omega
    · have F2 : Hid (FI h.i.n bs (lt c 0)) := Lib.hid (by rw [lt_zero (k := k) (by have := HC.out.np.1; omega)]; exact FF.out)
      have E2 := EE
      clear EE FF
      have y2 := E2.out.x.c2
      go_wp2
      clear y1 y2
      go_loopw [5] (fun i wr => ∃ k : Nat, k ≤ h.t.n ∧ i = .int .i64 k ∧ ∃ bs, EV w.heap.size (w.heap.size + 1) h w wr h.i.n bs ∧ FI h.i.n bs (lt c k)) (fun i _ => h.t.n - (intOf i).toNat)
      case atStart => exact ⟨0, by omega, rfl, _, E2.out, F2.out⟩
      case round =>
        obtain ⟨k, hk, rfl, bs, hE, hI⟩ := hrel
        have EE := Lib.hid hE
        have FF := Lib.hid hI
        clear hE hI E2 F2
        have y2 := EE.out.x.c2
        by_cases hlt : k < h.t.n
        · obtain ⟨ad, x, had, hx, hab, hc⟩ := Reads.elem (f := ThunkD.cells) (fun _ => rfl) (HC.out.t.below EE.out.x.b) HC.out.nt.1 hlt
          have HPX := Lib.hid (HPT.out x (List.mem_of_getElem? hx))
          have c0 := hc 0 _ (by omega) rfl
          have c1 := hc 1 _ (by omega) rfl
          have c2 := hc 2 _ (by omega) rfl
          rw [show (ad.add (k * 3)).add 0 = ad.add (k * 3) from rfl] at c0
          rw [show (ad.add (k * 3)).add 1 = { block := (ad.add (k * 3)).block, off := (ad.add (k * 3)).off + 1 } from rfl] at c1
          rw [show (ad.add (k * 3)).add 2 = { block := (ad.add (k * 3)).block, off := (ad.add (k * 3)).off + 2 } from rfl] at c2
          rw [had] at y2
          have LK := Lib.hid (lt_succ hx)
          have hi1 : (k : Int) < (h.t.n : Int) := by omega
          have hi0 : (0 : Int) ≤ (k : Int) := by omega
          clear hx hc hab had
          go_wp2
          refine wp_region_still_tail 18 (by kernel_rfl) (by kernel_rfl) ?_
          simp only [List.take_succ_cons, List.take_zero, List.drop_succ_cons, List.drop_zero]
          change wpStill _ _ wr.drew _ _ _
          repeat still_step
          refine wpStill_nil ?_
          change wpList _ _ _ _ _ wr.drew
          go_wp2
          have E4 := Lib.hid (EE.out.drew.alloc (.cells #[.int .i64 x.value, .int .i64 x.address, .int .i64 x.desig] 3))
          clear c0 c1 c2 y2 hi1 hi0
          obtain ⟨wo, rfl⟩ : ∃ wo : World, wo = wr := ⟨_, rfl⟩
          go_loopw [7] (fun i wr => ∃ m : Nat, m ≤ 3 ∧ i = .int .i64 m ∧ ∃ bs', EV w.heap.size (w.heap.size + 1) h w wr h.i.n bs' ∧ FI h.i.n bs' (lt c k ++ tl x m) ∧ wr.heap[wo.heap.size]? = some (.cells #[.int .i64 x.value, .int .i64 x.address, .int .i64 x.desig] 3 (0, 0))) (fun i _ => 3 - (intOf i).toNat)
          case atStart => exact ⟨0, by omega, rfl, bs, E4.out, by simpa [tl] using FF.out, heap_alloc_new wo.drew _⟩
          case round =>
            obtain ⟨m, hm, rfl, bs', hE', hI', hT'⟩ := hrel
            have EI := Lib.hid hE'
            have FX := Lib.hid hI'
            have hT := Lib.hid hT'
            clear hE' hI' hT' E4
            match m, hm with
            | 0, _ =>
              have t0 := hT.out
              have c0 : wr.cell? ⟨wo.heap.size, 0, none⟩ = some (.int .i64 x.value) := cell_of_row wr wo.heap.size 0 _ 3 (0, 0) t0
              clear t0
              by_cases hv : 0 ≤ x.value
              · obtain ⟨e, he, hen⟩ := HPX.out.1 hv
                have LS := Lib.hid (tl_in (lt c k) x 0 x.value rfl hv)
                rw [he] at LS c0
                have f0 := EI.out.o.frozenAt e
                obtain ⟨b0, q0⟩ := EI.out.at hen
                have hi1 : (e : Int) < (h.i.n : Int) := by omega
                have hi3 : (0 : Int) ≤ (e : Int) := by omega
                clear he hv
                go_wp2
                go_roundw
                case rel => exact ⟨0 + 1, by omega, by go_num, bs'.set e true, EI.out.set e, by rw [LS.out]; exact FX.out.push hen, by rw [heap_setCell_other wr ⟨w.heap.size + 1, e, none⟩ wo.heap.size (.bool true) (by have := EE.out.z; show wo.heap.size ≠ w.heap.size + 1; omega)]; exact hT.out⟩
                case measure => simp [intOf]
              · have LS := Lib.hid (tl_out (lt c k) x 0 x.value rfl hv)
                have hv2 : x.value < 0 := by omega
                clear hv
                go_wp2
                go_roundw
                case rel => exact ⟨0 + 1, by omega, by go_num, bs', EI.out, by rw [LS.out]; exact FX.out, hT.out⟩
                case measure => simp [intOf]
            | 1, _ =>
              have t1 := hT.out
              have c0 : wr.cell? ⟨wo.heap.size, 1, none⟩ = some (.int .i64 x.address) := cell_of_row wr wo.heap.size 1 _ 3 (0, 0) t1
              clear t1
              by_cases hv : 0 ≤ x.address
              · obtain ⟨e, he, hen⟩ := HPX.out.2.1 hv
                have LS := Lib.hid (tl_in (lt c k) x 1 x.address rfl hv)
                rw [he] at LS c0
                have f0 := EI.out.o.frozenAt e
                obtain ⟨b0, q0⟩ := EI.out.at hen
                have hi1 : (e : Int) < (h.i.n : Int) := by omega
                have hi3 : (0 : Int) ≤ (e : Int) := by omega
                clear he hv
                go_wp2
                go_roundw
                case rel => exact ⟨1 + 1, by omega, by go_num, bs'.set e true, EI.out.set e, by rw [LS.out]; exact FX.out.push hen, by rw [heap_setCell_other wr ⟨w.heap.size + 1, e, none⟩ wo.heap.size (.bool true) (by have := EE.out.z; show wo.heap.size ≠ w.heap.size + 1; omega)]; exact hT.out⟩
                case measure => simp [intOf]
              · have LS := Lib.hid (tl_out (lt c k) x 1 x.address rfl hv)
                have hv2 : x.address < 0 := by omega
                clear hv
                go_wp2
                go_roundw
                case rel => exact ⟨1 + 1, by omega, by go_num, bs', EI.out, by rw [LS.out]; exact FX.out, hT.out⟩
                case measure => simp [intOf]
            | 2, _ =>
              have t2 := hT.out
              have c0 : wr.cell? ⟨wo.heap.size, 2, none⟩ = some (.int .i64 x.desig) := cell_of_row wr wo.heap.size 2 _ 3 (0, 0) t2
              clear t2
              by_cases hv : 0 ≤ x.desig
              · obtain ⟨e, he, hen⟩ := HPX.out.2.2 hv
                have LS := Lib.hid (tl_in (lt c k) x 2 x.desig rfl hv)
                rw [he] at LS c0
                have f0 := EI.out.o.frozenAt e
                obtain ⟨b0, q0⟩ := EI.out.at hen
                have hi1 : (e : Int) < (h.i.n : Int) := by omega
                have hi3 : (0 : Int) ≤ (e : Int) := by omega
                clear he hv
                go_wp2
                go_roundw
                case rel => exact ⟨2 + 1, by omega, by go_num, bs'.set e true, EI.out.set e, by rw [LS.out]; exact FX.out.push hen, by rw [heap_setCell_other wr ⟨w.heap.size + 1, e, none⟩ wo.heap.size (.bool true) (by have := EE.out.z; show wo.heap.size ≠ w.heap.size + 1; omega)]; exact hT.out⟩
                case measure => simp [intOf]
              · have LS := Lib.hid (tl_out (lt c k) x 2 x.desig rfl hv)
                have hv2 : x.desig < 0 := by omega
                clear hv
                go_wp2
                go_roundw
                case rel => exact ⟨2 + 1, by omega, by go_num, bs', EI.out, by rw [LS.out]; exact FX.out, hT.out⟩
                case measure => simp [intOf]
            | 3, _ =>
              go_wp2
              go_roundw
              case rel => exact ⟨k + 1, by omega, by go_num, bs', EI.out, by rw [LK.out]; exact FX.out⟩
              case measure => simp [intOf]; omega
        · have F3 : Hid (FI h.i.n bs (ls c 0)) := Lib.hid (by rw [ls_zero (k := k) (by have := HC.out.nt.1; omega)]; exact FF.out)
          have E5 := EE
          clear EE FF
          have y3 := E5.out.x.c3
          go_wp2
          clear y2 y3
          go_loopw [8] (fun i wr => ∃ k : Nat, k ≤ h.s.n ∧ i = .int .i64 k ∧ ∃ bs, EV w.heap.size (w.heap.size + 1) h w wr h.i.n bs ∧ FI h.i.n bs (ls c k)) (fun i _ => h.s.n - (intOf i).toNat)
          case atStart => exact ⟨0, by omega, rfl, _, E5.out, F3.out⟩
          case round =>
            obtain ⟨k, hk, rfl, bs, hE, hI⟩ := hrel
            have EE := Lib.hid hE
            have FF := Lib.hid hI
            clear hE hI E5 F3
            have y3 := EE.out.x.c3
            by_cases hlt : k < h.s.n
            · obtain ⟨hs, hr, hsl, hsx⟩ := HC.out.s
              obtain ⟨ad, x, had, hx, hab, c0⟩ := Reads.elem1 (f := SH.v) (hr.below EE.out.x.b) (HC.out.ns.1.trans hsl.symm) hlt
              obtain ⟨l, hl⟩ : ∃ l, c.switches[k]? = some l := ⟨_, List.getElem?_eq_getElem (by have := HC.out.ns.1; omega)⟩
              obtain ⟨hRl, hSl⟩ := hsx k x l hx hl
              have hln : x.n = l.length := by have := hRl.1; simp [intCells] at this; omega
              have HRL := Lib.hid hRl
              have HLN := Lib.hid hln
              have HPX := Lib.hid (HPS.out l (List.mem_of_getElem? hl))
              have LK := Lib.hid (ls_succ hl)
              have HC0 : Hid (∀ W, Below w.heap.size w W → W.cell? (ad.add k) = some (.slice x.a x.n x.c)) := Lib.hid (fun W hb => by
                obtain ⟨ad2, x2, had2, hx2, _, hc2⟩ := Reads.elem1 (f := SH.v) (hr.below hb) (HC.out.ns.1.trans hsl.symm) hlt
                rw [had] at had2; cases had2; rw [hx] at hx2; cases hx2
                exact hc2)
              unfold Small at hSl
              have HAD := Lib.hid had
              have hi1 : (k : Int) < (h.s.n : Int) := by omega
              have hi0 : (0 : Int) ≤ (k : Int) := by omega
              clear hx hab had hr hsl hsx hl hRl hln c0
              go_wp2
              clear y3
              obtain ⟨wo, rfl⟩ : ∃ wo : World, wo = wr := ⟨_, rfl⟩
              go_loopw [9] (fun i wr => ∃ m : Nat, m ≤ x.n ∧ i = .int .i64 m ∧ ∃ bs', EV w.heap.size (w.heap.size + 1) h w wr h.i.n bs' ∧ FI h.i.n bs' (ls c k ++ l.take m)) (fun i _ => x.n - (intOf i).toNat)
              case atStart => exact ⟨0, by omega, rfl, bs, EE.out, by simpa using FF.out⟩
              case round =>
                obtain ⟨m, hm, rfl, bs', hE', hI'⟩ := hrel
                have EI := Lib.hid hE'
                have FX := Lib.hid hI'
                clear hE' hI'
                have y3 := EI.out.x.c3
                rw [HAD.out] at y3
                have c0 := HC0.out _ EI.out.x.b
                by_cases hlt2 : m < x.n
                · obtain ⟨a2, z, ha2, hz, _, d0⟩ := Reads.elem1 (f := Value.int .i64) (HRL.out.below EI.out.x.b) HLN.out hlt2
                  obtain ⟨e, he, hen⟩ := HPX.out z (List.mem_of_getElem? hz)
                  have LS : Hid (ls c k ++ l.take (m + 1) = ls c k ++ l.take m ++ [(e : Int)]) := Lib.hid (by rw [List.take_add_one, hz, he, List.append_assoc]; rfl)
                  rw [he] at d0
                  rw [ha2] at c0
                  have f0 := EI.out.o.frozenAt e
                  obtain ⟨b0, q0⟩ := EI.out.at hen
                  have hi3 : (e : Int) < (h.i.n : Int) := by omega
                  have hi4 : (m : Int) < (x.n : Int) := by omega
                  have hi5 : (0 : Int) ≤ (m : Int) := by omega
                  clear hz he ha2
                  go_wp2
                  go_roundw
                  case rel => exact ⟨m + 1, by omega, by go_num, bs'.set e true, EI.out.set e, by rw [LS.out]; exact FX.out.push hen⟩
                  case measure => simp [intOf]; omega
                · have LS : Hid (ls c (k + 1) = ls c k ++ l.take m) := Lib.hid (by rw [LK.out, List.take_of_length_le (by have := HLN.out; omega)])
                  go_wp2
                  go_roundw
                  case rel => exact ⟨k + 1, by omega, by go_num, bs', EI.out, by rw [LS.out]; exact FX.out⟩
                  case measure => simp [intOf]; omega
            · have F4 : Hid (FI h.i.n bs (li c 0)) := Lib.hid (by rw [li_zero (k := k) (by have := HC.out.ns.1; omega)]; exact FF.out)
              have E5 := EE
              clear EE FF
              have y0 := E5.out.x.c0
              go_wp2
              clear y0 y3
              go_loopw [10] (fun i wr => ∃ k : Nat, k ≤ h.i.n ∧ i = .int .i64 k ∧ ∃ bs, EV w.heap.size (w.heap.size + 1) h w wr h.i.n bs ∧ FI h.i.n bs (li c k)) (fun i _ => h.i.n - (intOf i).toNat)
              case atStart => exact ⟨0, by omega, rfl, _, E5.out, F4.out⟩
              case round =>
                obtain ⟨k, hk, rfl, bs, hE, hI⟩ := hrel
                have EE := Lib.hid hE
                have FF := Lib.hid hI
                clear hE hI E5 F4
                have y0 := EE.out.x.c0
                by_cases hlt : k < h.i.n
                · obtain ⟨ad, x, had, hx, hab, hc⟩ := Reads.elem (f := InstrD.cells) (fun _ => rfl) (HC.out.i.below EE.out.x.b) HC.out.ni.1 hlt
                  have HPX := Lib.hid (HPI.out x (List.mem_of_getElem? hx))
                  have c0 := hc 0 _ (by omega) rfl
                  have c1 := hc 1 _ (by omega) rfl
                  rw [show (ad.add (k * 4)).add 0 = ad.add (k * 4) from rfl] at c0
                  rw [show (ad.add (k * 4)).add 1 = { block := (ad.add (k * 4)).block, off := (ad.add (k * 4)).off + 1 } from rfl] at c1
                  rw [had] at y0
                  have hi1 : (k : Int) < (h.i.n : Int) := by omega
                  have hi0 : (0 : Int) ≤ (k : Int) := by omega
                  cases hop : x.op == 20 with
                  | true =>
                    obtain ⟨e, he, hen⟩ := HPX.out (by simpa using hop)
                    have LS := Lib.hid (li_lab hx hop)
                    rw [he] at LS c1
                    have f0 := EE.out.o.frozenAt e
                    obtain ⟨b0, q0⟩ := EE.out.at hen
                    have hi3 : (e : Int) < (h.i.n : Int) := by omega
                    clear hx hc hab had he
                    go_wp2
                    go_roundw
                    case rel => exact ⟨k + 1, by omega, by go_num, bs.set e true, EE.out.set e, by rw [LS.out]; exact FF.out.push hen⟩
                    case measure => simp [intOf]; omega
                  | false =>
                    have LS := Lib.hid (li_non hx hop)
                    clear hx hc hab had
                    go_wp2
                    go_roundw
                    case rel => exact ⟨k + 1, by omega, by go_num, bs, EE.out, by rw [LS.out]; exact FF.out⟩
                    case measure => simp [intOf]; omega
                · have F5 : Hid (FI h.i.n bs (entRaw c)) := Lib.hid (by rw [← li_all (k := k) (by have := HC.out.ni.1; omega)]; exact FF.out)
                  have HM : Hid (mkL bs bs.length = entL c) := Lib.hid (F5.out.marks HPE.out)
                  go_wp2_with (first
                    | (go_at_call 81; refine (marks_any _ h.i.n _ bs _ EE.out.reads F5.out.l.symm (by omega)).mono ?_; rintro e w9 ⟨v9, rfl, ho9, hb9⟩; have O9 := Lib.hid (own_mono ho9 EE.out.x.b.size); have B9 := Lib.hid (EE.out.x.b.trans (hb9.mono EE.out.x.b.size)); clear ho9 hb9))
                  go_ret
                  exact ⟨v9, rfl, by have h9 := O9.out; rw [HM.out] at h9; exact h9, B9.out⟩
end Go.Proofs.YtmfnholhhakgaaaGreatDoor
