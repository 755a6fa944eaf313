/- The reference of chapter 14: Reached: the contract: as the program's. -/
import Derived.Test.YtmfnholhhakgaaaGreatDoorRfe
namespace Go.Proofs.YtmfnholhhakgaaaGreatDoor
open Go Go.Proofs Go.RowKit Go.Sort
open Classical
set_option maxRecDepth 100000
def RetBools (w : World) (l : List Bool) (e : Ending) (w' : World) : Prop := ∃ v, e = .returned v ∧ w'.ownsRow w.heap.size 4 1 v l.length (l.map Value.bool) ∧ Below w.heap.size w w'
set_option maxHeartbeats 4000000 in
theorem rReached_any (h : CodeH) (c : CodeD) (w : World) (H : CodeAt w w.heap.size h c) (hf : fineB c (largeB h) = true) :
    Calls Tryz.prog 37 #[.agg #[.slice h.i.a h.i.n h.i.c, .slice h.p.a h.p.n h.p.c, .slice h.t.a h.t.n h.t.c, .slice h.s.a h.s.n h.s.c, .slice h.g.a h.g.n h.g.c, .slice h.r.a h.r.n h.r.c, .slice h.o.a h.o.n h.o.c]] w
      (RetBools w (rchL c)) := by
  obtain ⟨hl, W⟩ := fine_well hf
  obtain ⟨hn0, hn1, _⟩ := large_sizes hl
  have HC := Lib.hid H
  have HN := Lib.hid H.ni.1
  have hn00 : 0 < c.instrs.length := by have := HN.out; omega
  have EB := Lib.hid (fine_ent H hf)
  have HW := Lib.hid W
  have hL : (entL c).length ≤ h.i.n := by rw [HN.out]; exact ent_len W hn00
  have HPL := Lib.hid (fun z (hz : z ∈ entL c) => ent_raw W hn00 z ((mem_cs _ z).1 hz))
  have B0 := Lib.hid (BInv.start h w 30)
  obtain ⟨i0, hi0, hz0, hz1, hz2⟩ := elemBools.i
  have HF := Lib.hid hf
  clear H hf W hl
  go_enter Tryz.func37, Tryz.ntmps37
  go_wp2_with (first
    | (at_make; refine wpList_make_full _ rfl _ _ 66 rfl (w.heap.size + 1) 4 i0 (.bool false) 1 Tryz.underlying66 hi0 hz0 hz1 .i64 .i64 _ _ h.i.n rfl rfl rfl rfl (by rw [hz2]; omega) (by unfold maxLen; omega) (by simp) ?_; intro w2 ho2 hg2; simp only [World.size_alloc] at ho2; have O2 := Lib.hid ho2; have B2 := Lib.hid (B0.out.below ((Below.refl _ _).grown hg2 (Nat.le_refl _) (fun k hk => by cases hk))); clear ho2 hg2; have x0 := B2.out.c0; have x1 := B2.out.c1; have x2 := B2.out.c2; have x3 := B2.out.c3; have x4 := B2.out.c4; have x5 := B2.out.c5; have x6 := B2.out.c6)
    | (go_at_call 36; refine (rEntries_any h c _ (HC.out.at B2.out.b) HF.out).mono ?_; rintro e w3 ⟨v, rfl, ho3, hb3⟩; have O3 := Lib.hid ho3; have BB3 := Lib.hid hb3; clear ho3 hb3 x0 x1 x2 x3 x4 x5 x6))
  have hGz : w.heap.size + 1 + 1 ≤ w2.heap.size := by
    rcases O2.out.2 with ⟨h', _⟩ | ⟨g, cap, cur, h', _, hg, _⟩
    · simp at h'
    · have := (Array.getElem?_eq_some_iff.1 hg).1
      simp at h'
      omega
  have G0 : Hid (GInv w.heap.size (w.heap.size + 1) h w w3 h.i.n (List.replicate h.i.n false) v (entL c)) := Lib.hid
    { x := B2.out.below BB3.out, g := by omega, z := Nat.le_trans hGz BB3.out.size
      o := by have := own_below O2.out BB3.out; rw [made_bools] at this; exact this
      t := own_mono O3.out hGz }
  have S0 : Hid (SI c (List.replicate h.i.n false) (entL c)) := Lib.hid (by rw [HN.out]; exact SI.start HPL.out)
  have hO : offs (List.replicate h.i.n false) ≤ h.i.n := by have := offs_le (List.replicate h.i.n false); simpa using this
  clear O2 O3 BB3 B2 B0
  go_loopg [4] (4 * h.i.n) (fun gk t wr => ∃ (bs : List Bool) (st : List Int), 3 * offs bs + st.length ≤ gk ∧ gk ≤ 4 * h.i.n ∧ GInv w.heap.size (w.heap.size + 1) h w wr h.i.n bs t st ∧ SI c bs st)
  case atStart => exact ⟨_, _, by omega, Nat.le_refl _, G0.out, S0.out⟩
  case round =>
    obtain ⟨bs, st, hm, hm2, hG, hS⟩ := hrel
    clear G0 S0 hO hL
    have GG := Lib.hid hG
    have SS := Lib.hid hS
    clear hG hS
    by_cases h0 : 0 < st.length
    · obtain ⟨s, k, hst, hk⟩ := SI_last SS.out h0
      subst hst
      obtain ⟨g, cap, ht, hcap⟩ : ∃ g cap, u4 = .slice (some ⟨g, 0, none⟩) (s ++ [(k : Int)]).length cap ∧ s.length ≤ cap := by
        rcases GG.out.t.2 with ⟨_, h'⟩ | ⟨g, cap, cur, h', _, _, hnc, _⟩
        · simp at h'
        · exact ⟨g, cap, h', by simp at hnc; omega⟩
      subst ht
      have hlen : (s ++ [(k : Int)]).length = s.length + 1 := by simp
      have c1 : wr.cell? ⟨g, s.length, none⟩ = some (.int .i64 (k : Int)) := by
        have := GG.out.t.cellAt s.length (by rw [hlen]; omega)
        rw [this]
        simp
      rw [hlen] at GG hm ⊢
      have hk1 : k < h.i.n := by have := HN.out; omega
      have hk2 : (k : Int) < (h.i.n : Int) := by omega
      have hs0 : s.length ≤ 80000 := by omega
      have hcap2 : (s.length : Int) ≤ (cap : Int) := by omega
      obtain ⟨b, hb⟩ : ∃ b, bs[k]? = some b := ⟨_, List.getElem?_eq_getElem (by rw [SS.out.n]; exact hk)⟩
      have c2 : wr.cell? ⟨(w.heap.size + 1), k, none⟩ = some (.bool b) := by
        have := GG.out.o.cellAt k (by omega)
        rw [this, List.getElem?_map, hb]
        rfl
      have f2 : wr.frozen? ⟨(w.heap.size + 1), k, none⟩ = false := GG.out.o.frozenAt k
      have TT := Lib.hid (show wr.ownsRow (w.heap.size + 1 + 1) 3 1 (.slice (some ⟨g, 0, none⟩) s.length cap) s.length (s.map (Value.int .i64)) from by
        have h1 := GG.out.t
        rw [hlen] at h1
        have h2 := own_cut h1 s.length (by omega) (by omega)
        rwa [Nat.mul_one, List.map_append, List.take_left' (by simp)] at h2)
      have HB := Lib.hid hb
      clear hlen hb
      cases b with
      | true =>
        have SK := Lib.hid (SS.out.skip HB.out)
        have GK : Hid (GInv w.heap.size (w.heap.size + 1) h w wr h.i.n bs (.slice (some ⟨g, 0, none⟩) s.length cap) s) := Lib.hid (GG.out.to (Below.refl _ _) TT.out)
        go_wp2
        go_roundg (gk - 1)
        case rel => exact ⟨bs, s, by omega, by omega, GK.out, SK.out⟩
        case measure => omega
      | false =>
        obtain ⟨x, hx⟩ : ∃ x, c.instrs[k]? = some x := ⟨_, List.getElem?_eq_getElem hk⟩
        have HX := Lib.hid hx
        have SK : Hid (SI c (bs.set k true) (s ++ nextL x k h.i.n)) := Lib.hid (by
          rw [HN.out]
          have h1 := SS.out.take HB.out (by rw [nxL_at hx]; exact next_pl HW.out (List.mem_of_getElem? hx) k)
          rwa [nxL_at hx] at h1)
        have GK : Hid (GInv w.heap.size (w.heap.size + 1) h w (wr.setCell ⟨(w.heap.size + 1), k, none⟩ (.bool true)) h.i.n (bs.set k true) (.slice (some ⟨g, 0, none⟩) s.length cap) s) := Lib.hid ((GG.out.to (Below.refl _ _) TT.out : GInv w.heap.size (w.heap.size + 1) h w wr h.i.n bs (.slice (some ⟨g, 0, none⟩) s.length cap) s).set k true)
        have HO := Lib.hid (offs_set HB.out)
        have hnl : (nextL x k h.i.n).length ≤ 2 := next_len x k _
        have x0 := GK.out.x.c0; have x1 := GK.out.x.c1; have x2 := GK.out.x.c2; have x3 := GK.out.x.c3; have x4 := GK.out.x.c4; have x5 := GK.out.x.c5; have x6 := GK.out.x.c6
        clear hx TT
        go_wp2_with (first
          | (go_at_call 38; refine (rNext_any h c _ (HC.out.at GK.out.x.b) HF.out k x HX.out hk1).mono ?_; rintro e w5 ⟨v5, rfl, ho5, hb5⟩; have O5 := Lib.hid ho5; have G5 := Lib.hid (GK.out.below hb5); clear ho5 hb5 x0 x1 x2 x3 x4 x5 x6)
          | (at_builtin; refine wpList_cat elemInts rfl _ _ rfl (w.heap.size + 1 + 1) _ _ _ rfl G5.out.t _ _ _ _ rfl O5.out (fun u hu => by obtain ⟨y, _, rfl⟩ := List.mem_map.1 hu; rfl) (by omega) G5.out.z ?_; intro v6 w6 ho6 hb6; have G6 : Hid (GInv w.heap.size (w.heap.size + 1) h w w6 h.i.n (bs.set k true) v6 (s ++ nextL x k h.i.n)) := Lib.hid (G5.out.to hb6 (by rw [List.length_append, List.map_append]; exact ho6)); clear ho6 hb6))
        go_roundg (gk - 1)
        case rel => exact ⟨bs.set k true, s ++ nextL x k h.i.n, by rw [List.length_append]; have := HO.out; omega, by omega, G6.out, SK.out⟩
        case measure => omega
    · obtain rfl : st = [] := by cases st with | nil => rfl | cons a l => simp at h0
      have HE := Lib.hid SS.out.done
      have hz : ∃ A cap, u4 = .slice A 0 cap := by
        rcases GG.out.t.2 with ⟨h', _⟩ | ⟨g, cap, cur, h', _⟩
        · exact ⟨_, _, h'⟩
        · exact ⟨_, _, h'⟩
      obtain ⟨A, cap, rfl⟩ := hz
      go_wp2
      go_ret
      refine ⟨_, rfl, ?_, GG.out.x.b⟩
      have h1 := GG.out.o
      rw [HE.out] at h1
      have h2 : (rchL c).length = h.i.n := by rw [HN.out]; simp [rchL]
      rw [h2]
      exact own_mono h1 (by omega)
end Go.Proofs.YtmfnholhhakgaaaGreatDoor
